/-
  sbc.blocks, compare, walked. Conditions: one step; the blocks are well; no tuples came.
-/
import Derived.Test.YtjkpelbhhapebaaGreatDoorCmds
import Derived.Test.YtjkpelbhhapebaaGreatDoorCome
import Derived.Test.YtjkpelbhhapebaaGreatDoorDisk
import Derived.BigQuiet
import Derived.Deep.RegionHeld3
namespace Go.Proofs.YtjkpelbhhapebaaGreatDoor
open Go.RowKit
open W (Nxt)
set_option maxRecDepth 100000
theorem sblocks_in (p wb : Nat) (s : ByteArray) (cache : Bool) (w : World) (hs : ST w p wb s cache) : Calls Tryz.prog 135 #[.pointer (some ⟨p, 0, none⟩)] w fun e w' => e = .returned (.int .i64 32) ∧ w = w' := by
  have c2 := hs.c2
  replace hs := hide hs
  go_enter Tryz.func135, Tryz.ntmps135
  go_wp2
  go_ret
  exact ⟨rfl, rfl⟩
theorem blocks_in (dv p wb : Nat) (prot : Int) (s : ByteArray) (cache : Bool) (w : World) (hd : DV w dv p prot) (hs : ST w p wb s cache) : Calls Tryz.prog 98 #[.pointer (some ⟨dv, 0, none⟩)] w fun e w' => e = .returned (.int .u64 32) ∧ w = w' := by
  have c0 := hd.c0
  have h := sblocks_in p wb s cache w hs
  replace hs := hide hs; replace hd := hide hd; replace h := hide h
  go_enter Tryz.func98, Tryz.ntmps98
  go_wp2_with (go_at_call 135; (with_reducible refine h.out.mono ?_); rintro e w1 ⟨rfl, rfl⟩)
  go_ret
  exact ⟨rfl, rfl⟩
/-- All cells of a command. -/
theorem CM.all {w : World} {g : Nat} {c : Cm} (h : CM w g c) : w.cell? ⟨g, 0, none⟩ = some (.int .u8 c.kind) ∧ w.cell? ⟨g, 1, none⟩ = some (.bool c.long) ∧ w.cell? ⟨g, 2, none⟩ = some (.int .u64 c.lba) ∧ w.cell? ⟨g, 3, none⟩ = some (.int .u64 c.blocks) ∧ w.cell? ⟨g, 4, none⟩ = some (.int .i64 c.alloc) ∧ w.cell? ⟨g, 5, none⟩ = some (.bool c.fua) ∧ w.cell? ⟨g, 6, none⟩ = some (.int .u8 c.prot) ∧ w.cell? ⟨g, 7, none⟩ = some (.bool c.unmap) ∧ w.cell? ⟨g, 8, none⟩ = some (.bool c.evpd) ∧ w.cell? ⟨g, 9, none⟩ = some (.int .u8 c.page) ∧ w.cell? ⟨g, 10, none⟩ = some (.int .u8 c.control) ∧ w.cell? ⟨g, 11, none⟩ = some (.bool c.save) ∧ w.cell? ⟨g, 12, none⟩ = some (.int .u8 c.service) ∧ w.cell? ⟨g, 13, none⟩ = some (.int .u8 c.type) ∧ w.cell? ⟨g, 14, none⟩ = some (.bool c.bytes) :=
  ⟨h.at_ 0, h.at_ 1, h.at_ 2, h.at_ 3, h.at_ 4, h.at_ 5, h.at_ 6, h.at_ 7, h.at_ 8, h.at_ 9, h.at_ 10, h.at_ 11, h.at_ 12, h.at_ 13, h.at_ 14⟩
/-- A new result's cells. -/
theorem r35_all {w : World} {g : Nat} (h : w.heap[g]? = some (.cells zs35 35 (0, 0))) : (w.cell? ⟨g, 0, none⟩ = some (.int .u8 0) ∧ w.cell? ⟨g, 1, none⟩ = some (.int .u8 0) ∧ w.cell? ⟨g, 2, none⟩ = some (.int .u16 0) ∧ w.cell? ⟨g, 3, none⟩ = some (.int .u64 0) ∧ w.cell? ⟨g, 4, none⟩ = some (.bool false) ∧ w.cell? ⟨g, 5, none⟩ = some (.int .i64 0) ∧ w.cell? ⟨g, 6, none⟩ = some (.int .i64 0) ∧ w.cell? ⟨g, 7, none⟩ = some (.bool false) ∧ w.cell? ⟨g, 8, none⟩ = some (.bool false) ∧ w.cell? ⟨g, 9, none⟩ = some (.slice none 0 0)) ∧ ∀ i, w.frozen? ⟨g, i, none⟩ = false := by
  refine ⟨⟨?_, ?_, ?_, ?_, ?_, ?_, ?_, ?_, ?_, ?_⟩, fun i => frozen_of_row w g i _ 35 h⟩ <;> rw [cell_of_row w g _ _ 35 (0, 0) h] <;> rfl
theorem CM.drew' {w : World} {g : Nat} {c : Cm} (h : CM w g c) : CM w.drew g c := h
theorem CM.alloc' {w : World} {g : Nat} {c : Cm} (h : CM w g c) (o : Obj) : CM (w.alloc o) g c := h.mod ((Mod.refl (fun _ => False) w).alloc o) (fun h => h)
theorem CM.setC {w : World} {g k o : Nat} {c : Cm} {v : Value} (h : CM w g c) (hne : k ≠ g) : CM (w.setCell ⟨k, o, none⟩ v) g c := h.mod (mod_s (Mod.refl (fun j => j = k) w)) (fun e => hne e.symm)
theorem Fd.uniq {x y : List Int} {r r' : Int} (h : Fd x y r) (h' : Fd x y r') : r = r' := by
  rcases h with ⟨rfl, h⟩ | ⟨k, h1, rfl, h2, h3⟩
  · rcases h' with ⟨rfl, -⟩ | ⟨k, h1', rfl, h2', -⟩
    · rfl
    · exact absurd (h k h1') h2'
  · rcases h' with ⟨rfl, h'⟩ | ⟨k', h1', rfl, h2', h3'⟩
    · exact absurd (h' k h1) h2
    · rcases Nat.lt_trichotomy k k' with h | h | h
      · exact absurd (h3' k h) h2
      · rw [h]
      · exact absurd (h3 k' h) h2'
theorem Fd.ex (x y : List Int) : ∃ r, Fd x y r := by
  suffices h : ∀ n, n ≤ x.length → (∀ j, j < n → gi x j = gi y j) ∨ ∃ k : Nat, k < x.length ∧ gi x k ≠ gi y k ∧ ∀ j, j < k → gi x j = gi y j by
    rcases h x.length (Nat.le_refl _) with h | ⟨k, h1, h2, h3⟩
    · exact ⟨-1, .inl ⟨rfl, h⟩⟩
    · exact ⟨k, .inr ⟨k, h1, rfl, h2, h3⟩⟩
  intro n
  induction n with
  | zero => exact fun _ => .inl fun j hj => by omega
  | succ n ih =>
    intro hn
    rcases ih (by omega) with h | h
    · by_cases e : gi x n = gi y n
      · exact .inl fun j hj => by
          by_cases hj' : j = n
          · subst hj'; exact e
          · exact h j (by omega)
      · exact .inr ⟨n, by omega, e, h⟩
    · exact .inr h
theorem set35 {w : World} {g : Nat} (i : Nat) (v : Value) (h : w.heap[g]? = some (.cells zs35 35 (0, 0))) (e : zs35.setIfInBounds i v = zs35) : (w.setCell ⟨g, i, none⟩ v).heap[g]? = some (.cells zs35 35 (0, 0)) := by
  rw [heap_setCell_same w g i _ 35 _ h, e]
theorem refOf_b (prot lba : Int) (h : 0 ≤ lba ∧ lba ≤ 1000000) : 0 ≤ refOf prot lba ∧ refOf prot lba ≤ 4294967295 := by
  unfold refOf
  split <;> omega
theorem tupd_gi (prot lba : Int) (l : List Bl) (k i : Nat) (hi : i < l.length) (hk : i < k) : gi (tupd prot lba l k) i = withT (gi l i) (c16 (gi l i).d) 0 (refOf prot (lba + i)) := by
  rw [gi_eq _ i (by rw [tupd_len]; exact hi)]
  simp [tupd, hk]
theorem tupd_ok (prot lba : Int) (l : List Bl) (hl : ∀ b ∈ l, OkBl b) (h : 0 ≤ lba ∧ lba ≤ 1000) (hn : l.length ≤ 1000) : ∀ b ∈ tupd prot lba l l.length, OkBl b := by
  intro b hb
  obtain ⟨i, hi, rfl⟩ := List.getElem_of_mem hb
  rw [tupd_len] at hi
  rw [← gi_eq _ i (by rw [tupd_len]; exact hi), tupd_gi _ _ _ _ _ hi hi]
  obtain ⟨h1, h2, -⟩ := hl (gi l i) (by rw [gi_eq l i hi]; exact List.getElem_mem _)
  have := refOf_b prot (lba + i) (by omega)
  exact ⟨h1, h2, c16_b _, by simp [withT], this⟩
theorem tupd_well (prot lba : Int) (l : List Bl) (hp : 0 ≤ prot ∧ prot ≤ 3) (i : Nat) (hi : i < l.length) : WellAt prot (lba + i) (gi (tupd prot lba l l.length) i) := by
  rw [tupd_gi _ _ _ _ _ hi hi]
  rcases (by omega : prot = 0 ∨ prot = 1 ∨ prot = 2 ∨ prot = 3) with rfl | rfl | rfl | rfl
  · exact .inl rfl
  · exact .inr (.inr ⟨rfl, .inr rfl⟩)
  · exact .inr (.inr ⟨rfl, .inr rfl⟩)
  · exact .inr (.inr ⟨rfl, .inl rfl⟩)
set_option maxHeartbeats 4000000 in
theorem compare_in (B M dv p wb pc : Nat) (prot : Int) (c : Cm) (x : Wx) (F : Nat → Prop) (s : ByteArray) (cache : Bool) (pb : Nat) (pl : List Int) (w : World) (hd : DV w dv p prot) (hs : ST w p wb s cache) (hW : WU B w wb M x F) (hp : ¬ F p) (hdF : ¬ F dv) (hM : M < 80000) (hl : c.lba + 1 ≤ 32) (hb1 : c.blocks = 1) (h1 : 1 ≤ s.size) (h2 : s.size ≤ 32)
    (hf : Bytes (x.file s)) (hk : 0 ≤ prot ∧ prot ≤ 3) (hc : c.prot = 0) (hb : ∀ i, i < 32 → OkBl (blkAt (x.file s) i) ∧ WellAt prot i (blkAt (x.file s) i))
    (hr : Rd w 1 (ic .u8) (some ⟨pb, 0, none⟩) 32 pl) (hnc : 32 ≤ pc) (hcm : pc ≤ maxLen) (hpl : Bytes pl) :
    Calls Tryz.prog 109 #[.pointer (some ⟨dv, 0, none⟩), .agg (cmA c), .slice (some ⟨pb, 0, none⟩) 32 pc] w fun e w' => ∃ F' r x' M', M' ≤ M + 4 ∧ e = .returned (if r < 0 then okR (.slice none 0 0) else rsA 2 14 7424 r true (.slice none 0 0)) ∧
      Fd (blkAt (x.file s) c.lba).d (pl.take 16) r ∧ x' = (if r < 0 then laidX x s c.lba (tupd prot c.lba (unL (pl.drop 16) 1) 1) (c.fua || !cache) else x) ∧ WU B w' wb M' x' F' ∧ Nxt B F F' w w' := by
  have hbd := hide hW.bound
  have hBs : B ≤ w.heap.size := by
    obtain ⟨d, N, h, -⟩ := hW
    exact h.2.2
  have hN0 := hide (W.Nxt.refl F w hBs (fun k hk => (hbd.out k hk).1))
  have ht := hr.take 16 (by omega)
  have hdp := hr.drop 16 (by omega)
  rw [Option.map_some, Addr.add_mid, Nat.zero_add] at hdp
  have hpc1 : ¬ pc = 16 := by omega
  have hpc2 : 16 ≤ pc := by omega
  have hpc3 : (16 : Int) ≤ (pc : Int) := by omega
  obtain ⟨r0, hr0⟩ := Fd.ex (blkAt (x.file s) c.lba).d (pl.take 16)
  have hun1 : (unL (pl.drop 16) 1).length = 1 := unL_len _ _
  have huok := unL_ok (pl.drop 16) 1 (hpl.drop _) (by rw [List.length_drop, hr.1])
  have htok := unL_ok (pl.take 16) 1 (hpl.take _) (by rw [List.length_take, hr.1]; rfl)
  have hpk : packL false (unL (pl.take 16) 1) = pl.take 16 := by simp [packL, packB, unL, plainB, List.take_take]
  have hok1 : ∀ b ∈ tupd prot c.lba (unL (pl.drop 16) 1) 1, OkBl b := by
    have := tupd_ok prot c.lba (unL (pl.drop 16) 1) huok (by omega) (by rw [hun1]; omega)
    rwa [hun1] at this
  have htl : (tupd prot c.lba (unL (pl.drop 16) 1) 1).length = 1 := by rw [tupd_len, hun1]
  replace hr0 := hide hr0; replace hun1 := hide hun1; replace huok := hide huok; replace htok := hide htok; replace hpk := hide hpk; replace hok1 := hide hok1; replace htl := hide htl
  replace hd := hide hd; replace hs := hide hs; replace hW := hide hW; replace hf := hide hf; replace ht := hide ht; replace hdp := hide hdp; replace hb := hide hb; replace hr := hide hr; replace hpl := hide hpl
  go_enter Tryz.func109, Tryz.ntmps109
  go_wp2_with (first
    | (refine list_box 104 (.tmp 1) rfl rfl (cmA c) rfl ?_
       intro w1 g hg hcm' m1 hz
       have hcm' : CM w1 g c := hcm'
       replace hcm' := hide hcm'; replace m1 := hide m1; replace hz := hide hz; replace hg := hide hg)
    | (refine list_al 35 _ new35' rfl rfl ?_
       intro W2 g6 hg6 h356 m6 hz6
       have m2 : Mod (fun _ => False) w W2 := m1.out.trans m6 (fun _ _ h => h)
       have hcm2 : CM W2 g c := hcm'.out.mod m6 (fun h => h)
       have k6 : W2.cell? ⟨g, 6, none⟩ = some (.int .u8 0) := by rw [hcm2.c6, hc]
       have k3 : W2.cell? ⟨g, 3, none⟩ = some (.int .u64 1) := by rw [hcm2.c3, hb1]; rfl
       replace hg6 := hide hg6; replace h356 := hide h356; replace m6 := hide m6; replace hz6 := hide hz6; replace m2 := hide m2; replace hcm2 := hide hcm2; replace hb1 := hide hb1; replace hc := hide hc))
  have e1 : IntKind.i64.wrap 1 = 1 := IntWalk.i64_in _ (by omega)
  have e16 : IntKind.i64.wrap 16 = 16 := IntWalk.i64_in _ (by omega)
  have e17 : IntKind.i64.wrap (16 * 1) = 16 := IntWalk.i64_in _ (by omega)
  go_quiet ((go_at_call 144; exact (size_no _).mono fun e w' h => ⟨h.1, _, h.2.symm⟩))
  go_wp2_with fail
  have m3 : Mod (fun _ => False) w (W2.drewN nq) := m2.out.drewN _
  have hcm3 : CM (W2.drewN nq) g c := hcm2.out
  have hun := fun w' (m : Mod (fun _ => False) w w') => unpack_no (some ⟨pb, 0, none⟩) 16 1 pc (pl.take 16) w' (ht.out.mod m (fun _ _ h => h)) rfl (by omega) (by omega) hcm
  have hS6 : ∀ w' : World, CM w' g c → w'.cell? ⟨g, 6, none⟩ = some (.int .u8 0) := fun w' h => by rw [h.c6, hc.out]
  clear k6 k3 e1 e16 e17
  replace hun := hide hun; replace m3 := hide m3; replace hcm3 := hide hcm3
  go_region_held3 (fun w' => CM w' g c)
    (first | exact hcm3.out | exact hcm4.out)
    (first
    | (go_at_call 134; (with_reducible refine (hun.out _ ?_).mono ?_); (exact m3.out.drew); rintro e w4 ⟨v, rfl, hrow, m4, hown⟩
       obtain ⟨A4, c4, rfl, -, -⟩ := hrow.slice
       rw [unL_len]
       have a4 : Mod (fun _ => False) w w4 := (m3.out.drew).trans m4 (fun _ _ h => h)
       have hcm4 : CM w4 g c := hcm3.out.mod (((Mod.refl (fun _ => False) (W2.drewN nq)).drew).trans m4 (fun _ _ h => h)) (fun h => h)
       have h46 : w4.heap[g6]? = some (.cells zs35 35 (0, 0)) := m4.heap (show (W2.drewN nq).drew.heap[g6]? = _ from h356.out) (fun h => h)
       replace hrow := hide hrow; replace m4 := hide m4; replace hown := hide hown; replace a4 := hide a4; replace hcm4 := hide hcm4; replace h46 := hide h46))
  go_wp2_with fail
  have hd4 := hd.out.mod a4.out (fun h => h)
  have hSL := fun (w' : World) (h : CM w' g c) => h.all
  clear hS6
  have hco : ∀ W, Mod (fun _ => False) w4 W → Calls Tryz.prog 103 #[.pointer (some ⟨dv, 0, none⟩), .agg #[.int .u8 c.kind, .bool c.long, .int .u64 c.lba, .int .u64 c.blocks, .int .i64 c.alloc, .bool c.fua, .int .u8 c.prot, .bool c.unmap, .bool c.evpd, .int .u8 c.page, .int .u8 c.control, .bool c.save, .int .u8 c.service, .int .u8 c.type, .bool c.bytes], .slice (some ⟨pb, 16, none⟩) 16 (pc - 16), .int .u64 c.blocks] W fun e w' => ∃ v, e = .returned (.tuple #[v, okR (.slice none 0 0), .bool true]) ∧ Row w' 259 19 encB v (tupd prot c.lba (unL (pl.drop 16) c.blocks) c.blocks) ∧ (∀ k, v.ownBlock = some k → W.heap.size ≤ k) ∧ Mod (fun _ => False) W w' := fun W mW =>
    come_no dv p c.blocks 16 (pc - 16) prot c (some ⟨pb, 16, none⟩) (pl.drop 16) W (hd4.mod mW (fun h => h)) ((hdp.out.mod a4.out (fun _ _ h => h)).mod mW (fun _ _ h => h)) (by rw [hb1.out]) (by rw [hb1.out]; omega) (by rw [hb1.out]; omega) (by omega) (by omega) (hpl.out.drop _) hk hc.out (by omega)
  replace hd4 := hide hd4; replace hco := hide hco
  have hne5 : w4.heap.size ≠ g := by have := hcm4.out.lt; omega
  go_region_held3 (fun w' => CM w' g c)
    ((repeat (first | (with_reducible exact hcm4.out) | (with_reducible exact hcm5.out) | (with_reducible refine CM.drew' ?_) | (with_reducible refine CM.alloc' ?_ _) | (with_reducible refine CM.setC ?_ hne5))))
    (first
    | (go_at_call 103; (with_reducible refine (hco.out _ ?_).mono ?_); (exact (Mod.refl _ w4).drew); rintro e w5 ⟨v, rfl, hrow5, hown5, m5⟩
       rw [hb1.out] at hrow5
       obtain ⟨A5, c5, rfl, -, -⟩ := hrow5.slice
       have a5 : Mod (fun _ => False) w4 w5 := ((Mod.refl _ w4).drew).trans m5 (fun _ _ h => h)
       have hcm5 : CM w5 g c := hcm4.out.mod a5 (fun h => h)
       replace hrow5 := hide hrow5; replace hown5 := hide hown5; replace m5 := hide m5; replace a5 := hide a5; replace hcm5 := hide hcm5)
    | (go_at_call 103; (with_reducible refine (hco.out _ ?_).mono ?_); (exact ((Mod.refl _ w4).alloc _).drew); rintro e w5 ⟨v, rfl, hrow5, hown5, m5⟩
       rw [hb1.out] at hrow5
       obtain ⟨A5, c5, rfl, -, -⟩ := hrow5.slice
       have a5 : Mod (fun _ => False) w4 w5 := (((Mod.refl _ w4).alloc _).drew).trans m5 (fun _ _ h => h)
       have hcm5 : CM w5 g c := hcm4.out.mod a5 (fun h => h)
       have h115 : w5.heap[w4.heap.size]? = some (.cells zs35 35 (0, 0)) := m5.heap (new35 w4) (fun h => h)
       obtain ⟨z35, f35⟩ := r35_all h115
       replace hrow5 := hide hrow5; replace hown5 := hide hown5; replace m5 := hide m5; replace a5 := hide a5; replace hcm5 := hide hcm5; replace h115 := hide h115))
  all_goals clear hSL
  obtain ⟨W6, hW6⟩ : ∃ W6, W6 = w5.alloc (.cells zs35 35) := ⟨_, rfl⟩
  refine q_at hW6 ?_
  obtain ⟨g11, hg11⟩ : ∃ g11, g11 = w5.heap.size := ⟨_, rfl⟩
  rw [← hg11]
  have h11 : W6.heap[g11]? = some (.cells zs35 35 (0, 0)) := by rw [hW6, hg11]; exact new35 w5
  have m56 : Mod (fun k => k = g11) w5 W6 := by rw [hW6]; exact (Mod.refl _ w5).alloc _
  have q1 := a4.out.size
  have q2 := a5.out.size
  have hgw : w.heap.size ≤ g11 := by omega
  have hg46 : w4.heap.size ≤ g11 := by omega
  have hg11g : g ≠ g11 := by have := hcm5.out.lt; omega
  have hn4 : ∀ k, (Value.slice A4 1 c4).ownBlock = some k → k ≠ g11 := fun k hk => by have := Row.lt (by have := hrow.out; exact this) k (by rw [unL_len]; exact hk); omega
  have hn5 : ∀ k, (Value.slice A5 (tupd prot c.lba (unL (pl.drop 16) 1) 1).length c5).ownBlock = some k → k ≠ g11 := fun k hk => by have := hrow5.out.lt k hk; omega
  have hown5w : ∀ k, (Value.slice A5 (tupd prot c.lba (unL (pl.drop 16) 1) 1).length c5).ownBlock = some k → w.heap.size ≤ k := fun k hk => by have := hown5.out k hk; simp at this; omega
  clear hW6 hg11
  replace h11 := hide h11; replace m56 := hide m56; replace hn4 := hide hn4; replace hn5 := hide hn5; replace hown5w := hide hown5w
  rotate_left 1
  obtain ⟨W6, hW6⟩ : ∃ W6, W6 = ((((((((((w5.setCell ⟨w4.heap.size, 0, none⟩ (.int .u8 0)).setCell ⟨w4.heap.size, 1, none⟩ (.int .u8 0)).setCell ⟨w4.heap.size, 2, none⟩ (.int .u16 0)).setCell ⟨w4.heap.size, 3, none⟩ (.int .u64 0)).setCell ⟨w4.heap.size, 4, none⟩ (.bool false)).setCell ⟨w4.heap.size, 5, none⟩ (.int .i64 0)).setCell ⟨w4.heap.size, 6, none⟩ (.int .i64 0)).setCell ⟨w4.heap.size, 7, none⟩ (.bool false)).setCell ⟨w4.heap.size, 8, none⟩ (.bool false)).setCell ⟨w4.heap.size, 9, none⟩ (.slice none 0 0)) := ⟨_, rfl⟩
  refine q_at hW6 ?_
  obtain ⟨g11, hg11⟩ : ∃ g11, g11 = w4.heap.size := ⟨_, rfl⟩
  rw [← hg11]
  have h11 : W6.heap[g11]? = some (.cells zs35 35 (0, 0)) := by
    rw [hW6, hg11]
    repeat (refine set35 _ _ ?_ rfl)
    exact h115.out
  have m56 : Mod (fun k => k = g11) w5 W6 := by
    rw [hW6, hg11]
    (repeat (with_reducible refine mod_s ?_)); exact Mod.refl _ _
  have q1 := a4.out.size
  have q2 := a5.out.size
  have hgw : w.heap.size ≤ g11 := by omega
  have hg46 : w4.heap.size ≤ g11 := by omega
  have hg11g : g ≠ g11 := by have := hcm4.out.lt; omega
  have hn4 : ∀ k, (Value.slice A4 1 c4).ownBlock = some k → k ≠ g11 := fun k hk => by have := Row.lt (by have := hrow.out; exact this) k (by rw [unL_len]; exact hk); omega
  have hn5 : ∀ k, (Value.slice A5 (tupd prot c.lba (unL (pl.drop 16) 1) 1).length c5).ownBlock = some k → k ≠ g11 := fun k hk => by have := hown5.out k hk; simp at this; omega
  have hown5w : ∀ k, (Value.slice A5 (tupd prot c.lba (unL (pl.drop 16) 1) 1).length c5).ownBlock = some k → w.heap.size ≤ k := fun k hk => by have := hown5.out k hk; simp at this; omega
  clear hW6 hg11
  replace h11 := hide h11; replace m56 := hide m56; replace hn4 := hide hn4; replace hn5 := hide hn5; replace hown5w := hide hown5w
  all_goals
    have m6w : Mod (fun _ => False) w W6 := (a4.out.trans a5.out (fun _ _ h => h)).trans m56.out (fun i hi e => by omega)
    have hcm6 : CM W6 g c := hcm5.out.mod m56.out hg11g
    have hr4 := hrow.out
    have hnew4 : ∀ k, (Value.slice A4 (unL (pl.take 16) 1).length c4).ownBlock = some k → w.heap.size ≤ k := fun k hk => by have := hown.out k hk; simp at this; have := m2.out.size; omega
    replace hnew4 := hide hnew4
    rw [show (Value.slice A4 1 c4) = Value.slice A4 (unL (pl.take 16) 1).length c4 from by rw [unL_len]] at hn4
    have row46 := (hr4.mod a5.out (fun _ _ h => h)).mod m56.out hn4.out
    have row56 := hrow5.out.mod m56.out hn5.out
    have hd6 := hd.out.mod m6w (fun h => h)
    have hs6 := hs.out.mod m6w (fun h => h)
    have hWu6 := hW.out.mod m6w (fun _ _ h => h)
    have hN6 : W.Nxt B F F w W6 := hN0.out.add hBs m6w
    have hrd := sread_in B M dv p wb prot c x F s cache W6 hd6 hs6 hWu6 hp hdF (by omega) (by rw [hb1.out]; omega) h1 h2 hf.out hk (by rw [hc.out]; omega) hb.out
    have hgF : ¬ F g11 := fun h => by have := (hbd.out _ h).2; omega
    have hgF2 : ¬ F g := fun h => by have := (hbd.out _ h).2; have := hg.out; omega
    have hg6F : ¬ F g6 := fun h => by have := (hbd.out _ h).2; have := hg6.out; have := m1.out.size; omega
    clear hr4
    replace hrd := hide hrd; replace m6w := hide m6w; replace hcm6 := hide hcm6; replace row46 := hide row46; replace row56 := hide row56; replace hd6 := hide hd6; replace hs6 := hide hs6; replace hWu6 := hide hWu6; replace hN6 := hide hN6
    go_wp2_with (first
      | (refine list_whole 104 (.tmp 4) rfl rfl ⟨g, 0, none⟩ (cmA c) rfl (load_whole hcm6.out Tryz.underlying104 rfl size104) ?_)
      | (go_at_call 100; (with_reducible refine hrd.out.mono ?_); rintro e w8 ⟨v, rfl, row8, own8, W8, N8⟩
         rw [hb1.out] at row8 W8
         obtain ⟨A8, c8, rfl, -, -⟩ := row8.slice
         rw [blks_len]
         have h118 := N8.1.heap h11.out hgF
         replace row8 := hide row8; replace own8 := hide own8; replace W8 := hide W8; replace N8 := hide N8; replace h118 := hide h118)
      | (refine list_put 35 (.tmp 11) (.tmp 59) rfl rfl g11 (rcA 0 0 0 0 false (.slice none 0 0)) rfl rfl zs35 h118.out rfl size35 (rc_one _ _ _ _ _ _ _ _) ?_
         intro w9 h9 m9; replace h9 := hide h9; replace m9 := hide m9))
    have hF' : ∀ i, i < W6.heap.size → i = g11 → F i ∨ i = g11 := fun i _ e => .inr e
    have m69 : Mod (fun k => F k ∨ k = g11) W6 w9 := (N8.out.1.mono (fun _ _ h => .inl h)).trans m9.out hF'
    have nF : ∀ k, w.heap.size ≤ k → ¬ F k := fun k hk h => by have := (hbd.out k h).2; omega
    have row49 := row46.out.mod m69 (fun k hk e => by
      rcases e with e | e
      · have := row46.out.lt k hk
        exact nF k (hnew4.out k hk) e
      · exact hn4.out k hk e)
    have row89 := row8.out.mod m9.out (fun k hk e => by have := own8.out k hk; have := (Array.getElem?_eq_some_iff.1 h11.out).1; omega)
    have hpb : packL false (blks (x.file s) c.lba 1) = (blkAt (x.file s) c.lba).d := by simp [packL, packB, blks]
    have hdf : Calls Tryz.prog 141 #[.slice A8 1 c8, .slice A4 1 c4] w9 fun e w' => e = .returned (.int .i64 r0) ∧ Mod (fun _ => False) w9 w' :=
      (differ_any A8 A4 1 c8 c4 (blks (x.file s) c.lba 1) (unL (pl.take 16) 1) w9 (by have := row89.rd encB_len rfl; rwa [blks_len] at this) (by have := row49.rd encB_len rfl; rwa [unL_len] at this) (by omega)
        (fun b hb' => by
          simp only [blks, List.mem_map, List.mem_range] at hb'
          obtain ⟨i, hi, rfl⟩ := hb'
          exact (hb.out (c.lba + i) (by omega)).1) htok.out).mono fun e w' ⟨r, h1', h2', h3'⟩ => by
        rw [hpb, hpk.out] at h2'
        rw [h1', Fd.uniq h2' hr0.out]
        exact ⟨rfl, h3'⟩
    have hN9 : W.Nxt B F F w w9 := (hN6.out.trans N8.out).new hBs m9.out hgw
    have hcm9 := hcm6.out.mod m69 (fun e => by
      rcases e with e | e
      · exact hgF2 e
      · exact hg11g e)
    have h69 : ∀ k, w.heap.size ≤ k → k ≠ g11 → ¬ (F k ∨ k = g11) := fun k hk hn e => by
      rcases e with e | e
      · exact nF k hk e
      · exact hn e
    have row59 := row56.out.mod m69 (fun k hk => h69 k (hown5w.out k hk) (hn5.out k hk))
    have hd9 := hd6.out.mod m69 (fun e => by
      rcases e with e | e
      · exact hdF e
      · have := hd.out.lt; omega)
    have hs9 := hs6.out.mod m69 (fun e => by
      rcases e with e | e
      · exact hp e
      · have := hs.out.lt; omega)
    have hg6n : g6 ≠ g11 := by have := (Array.getElem?_eq_some_iff.1 h46.out).1; omega
    have h69' := m9.out.heap (N8.out.1.heap (m56.out.heap (a5.out.heap h46.out (fun h => h)) hg6n) hg6F) hg6n
    have hg6w : w.heap.size ≤ g6 := by have := m1.out.size; have := hg6.out; omega
    replace h69' := hide h69'
    have W9 := W8.out.mod m9.out (fun k hk e => nF k (by omega) hk)
    clear row49 row89 hF' h69 m69
    replace hdf := hide hdf; replace hN9 := hide hN9; replace hcm9 := hide hcm9; replace row59 := hide row59; replace hd9 := hide hd9; replace hs9 := hide hs9; replace W9 := hide W9; replace nF := hide nF
    by_cases hneg : r0 < 0
    · have d0 : decide (0 ≤ r0) = false := by simp; omega
      refine hdf.out.mono ?_
      rintro e w10 ⟨rfl, m10⟩
      have hcm10 := hcm9.out.mod m10 (fun h => h)
      have k2 := hcm10.c2
      have k5 : w10.cell? ⟨g, 5, none⟩ = some (.bool c.fua) := hcm10.at_ 5
      have hA5 : ∀ ad, A5 = some ad → ¬ F ad.block ∧ ad.block < w10.heap.size := fun ad e => by
        subst e
        have q1 := hown5w.out ad.block rfl
        have q2 := row59.out.lt ad.block rfl
        exact ⟨nF.out _ q1, Nat.lt_of_lt_of_le q2 m10.size⟩
      have hr5 := ((row59.out.mod m10 (fun _ _ h => h)).rd encB_len rfl)
      have hwr := swrite_in B (M + 1) dv p wb c5 prot x F s cache c.fua c.lba A5 (tupd prot c.lba (unL (pl.drop 16) 1) 1) w10 (hd9.out.mod m10 (fun h => h)) (hs9.out.mod m10 (fun h => h)) (W9.out.mod m10 (fun _ _ h => h)) hp (by omega) (by rw [htl.out]; omega) h1 h2 hr5 hA5 hok1.out
      have h610 := m10.heap h69'.out (fun h => h)
      have hN10 := hN9.out.add (Nat.le_trans hBs hN9.out.1.size) m10
      replace hwr := hide hwr; replace hcm10 := hide hcm10; replace m10 := hide m10; replace h610 := hide h610; replace hN10 := hide hN10; replace hr5 := hide hr5; replace hA5 := hide hA5
      go_wp2_with (first
        | (go_at_call 104; (with_reducible refine hwr.out.mono ?_); rintro e w11 ⟨F', rfl, W11, N11⟩
           have h611 := N11.1.heap h610.out hg6F
           replace W11 := hide W11; replace N11 := hide N11; replace h611 := hide h611)
        | (refine list_put 35 (.tmp 6) (.tmp 78) rfl rfl g6 (rcA 0 0 0 0 false (.slice none 0 0)) rfl rfl zs35 h611.out rfl size35 (rc_one _ _ _ _ _ _ _ _) ?_
           intro w12 h12 m12; replace h12 := hide h12; replace m12 := hide m12))
      have q1 := htl.out
      have hF'6 : ¬ F' g6 := fun h => hg6F (N11.out.2.2 _ (Array.getElem?_eq_some_iff.1 h610.out).1 h)
      refine bodyPost_ret (v := okR (.slice none 0 0)) (results_one rfl rfl (load_whole h12.out Tryz.underlying35 rfl size35)) rfl ⟨F', r0, _, M + 1 + 2 * (tupd prot c.lba (unL (pl.drop 16) 1) 1).length + 1, by omega, ?_, hr0.out, rfl, ?_, ?_⟩
      · rw [if_pos hneg]
      · rw [if_pos hneg]
        exact W11.out.mod m12.out (fun k hk e => hF'6 (e ▸ hk))
      · exact (hN10.out.trans N11.out).new hBs m12.out hg6w
    · have d0 : decide (0 ≤ r0) = true := by simp; omega
      have hr32 : r0 < 16 := by
        rcases hr0.out with ⟨e, -⟩ | ⟨k, h1', h2', -⟩
        · omega
        · have := (hb.out c.lba (by omega)).1.1
          omega
      have ew : IntKind.u64.wrap r0 = r0 := IntWalk.u64_in _ (by omega)
      have hat := fun w => at_any 14 7424 r0 w
      replace hat := hide hat
      refine hdf.out.mono ?_
      rintro e w10 ⟨rfl, m10⟩
      have h610 := m10.heap h69'.out (fun h => h)
      have hN10 := hN9.out.add (Nat.le_trans hBs hN9.out.1.size) m10
      replace m10 := hide m10; replace h610 := hide h610; replace hN10 := hide hN10
      go_wp2_with (first
        | (go_at_call 99; (with_reducible refine (hat.out _).mono ?_); rintro e w11 ⟨rfl, m11⟩
           have h611 := m11.heap h610.out (fun h => h)
           replace m11 := hide m11; replace h611 := hide h611)
        | (refine list_put 35 (.tmp 6) (.tmp 71) rfl rfl g6 (rcA 2 14 7424 r0 true (.slice none 0 0)) rfl rfl zs35 h611.out rfl size35 (rc_one _ _ _ _ _ _ _ _) ?_
           intro w12 h12 m12; replace h12 := hide h12; replace m12 := hide m12))
      refine bodyPost_ret (v := rsA 2 14 7424 r0 true (.slice none 0 0)) (results_one rfl rfl (load_whole h12.out Tryz.underlying35 rfl size35)) rfl ⟨F, r0, _, M + 1, by omega, ?_, hr0.out, rfl, ?_, ?_⟩
      · rw [if_neg (by omega)]
      · rw [if_neg (by omega)]
        exact ((W9.out.mod m10.out (fun _ _ h => h)).mod m11.out (fun _ _ h => h)).mod m12.out (fun k hk e => hg6F (e ▸ hk))
      · exact (hN10.out.add (Nat.le_trans hBs hN10.out.1.size) m11.out).new hBs m12.out hg6w
end Go.Proofs.YtjkpelbhhapebaaGreatDoor
