/-
  The store: its block, check, and Read, walked. Conditions: 32 blocks, the range lies in it; no call of the world's fails.
-/
import Derived.Test.YtjkpelbhhapebaaGreatDoorUWorld
import Derived.Deep.RegionWith
namespace Go.Proofs.YtjkpelbhhapebaaGreatDoor
open Go.RowKit
open W (Nxt)
set_option maxRecDepth 100000
theorem W.Nxt.refl {B : Nat} (F : Nat → Prop) (w : World) (hB : B ≤ w.heap.size) (hF : ∀ k, F k → B ≤ k) : Nxt B F F w w := ⟨Mod.refl _ _, Mod.below (Mod.refl F w) hB hF, fun _ _ h => h⟩
/-- The store at block p: its world, its file, is there a cache. -/
def ST (w : World) (p wb : Nat) (s : ByteArray) (cache : Bool) : Prop := w.heap[p]? = some (.cells #[.pointer (some ⟨wb, 0, none⟩), .string s, .int .i64 32, .bool cache] 172 (0, 0))
section
variable {w w' : World} {p wb : Nat} {s : ByteArray} {cache : Bool} {F : Nat → Prop}
theorem ST.lt (h : ST w p wb s cache) : p < w.heap.size := (Array.getElem?_eq_some_iff.1 h).1
theorem ST.c0 (h : ST w p wb s cache) : w.cell? ⟨p, 0, none⟩ = some (.pointer (some ⟨wb, 0, none⟩)) := by rw [cell_of_row w _ 0 _ 172 (0, 0) h]; rfl
theorem ST.c1 (h : ST w p wb s cache) : w.cell? ⟨p, 1, none⟩ = some (.string s) := by rw [cell_of_row w _ 1 _ 172 (0, 0) h]; rfl
theorem ST.c2 (h : ST w p wb s cache) : w.cell? ⟨p, 2, none⟩ = some (.int .i64 32) := by rw [cell_of_row w _ 2 _ 172 (0, 0) h]; rfl
theorem ST.c3 (h : ST w p wb s cache) : w.cell? ⟨p, 3, none⟩ = some (.bool cache) := by rw [cell_of_row w _ 3 _ 172 (0, 0) h]; rfl
theorem ST.mod (h : ST w p wb s cache) (hm : Mod F w w') (hn : ¬ F p) : ST w' p wb s cache := hm.heap h hn
end
theorem check_in (p wb : Nat) (s : ByteArray) (cache : Bool) (lba n : Nat) (w : World) (hs : ST w p wb s cache) (hl : lba + n ≤ 32) :
    Calls Tryz.prog 157 #[.pointer (some ⟨p, 0, none⟩), .int .i64 lba, .int .i64 n] w fun e w' => e = .returned (.int .i64 0) ∧ w = w' := by
  have c2 := hs.c2
  have d1 : decide ((lba : Int) < 0) = false := by simp
  have d2 : decide ((n : Int) < 0) = false := by simp
  have d3 : decide (32 < (lba : Int)) = false := by simp; omega
  have d4 : decide (32 - (lba : Int) < n) = false := by simp; omega
  have hlt := hs.lt
  replace hs := hide hs
  go_enter Tryz.func157, Tryz.ntmps157
  go_wp2
  go_ret
  exact ⟨rfl, rfl⟩
/-- The blocks that a file has from a place on. -/
def blks (f : List Int) (lba n : Nat) : List Bl := (List.range n).map fun i => blkAt f (lba + i)
theorem blks_len (f : List Int) (lba n : Nat) : (blks f lba n).length = n := by simp [blks]
theorem blks_snoc (f : List Int) (lba n : Nat) : blks f lba n ++ [blkAt f (lba + n)] = blks f lba (n + 1) := by simp [blks, List.range_succ]
theorem blks_get (f : List Int) (lba n i : Nat) (h : i < n) : gi (blks f lba n) i = blkAt f (lba + i) := by
  rw [gi_eq _ i (by rw [blks_len]; exact h)]
  simp [blks]
set_option maxHeartbeats 4000000 in
theorem read_in (B M p wb : Nat) (x : Wx) (F : Nat → Prop) (s : ByteArray) (cache : Bool) (lba n : Nat) (w : World) (hs : ST w p wb s cache) (hW : WU B w wb M x F) (hp : ¬ F p) (hM : M < 90000) (hl : lba + n ≤ 32) (h1 : 1 ≤ s.size) (h2 : s.size ≤ 32) (hf : Bytes (x.file s)) :
    Calls Tryz.prog 136 #[.pointer (some ⟨p, 0, none⟩), .int .i64 lba, .int .i64 n] w fun e w' => ∃ v, e = .returned (.tuple #[v, .int .i64 n, .int .i64 0]) ∧ Row w' 259 19 encB v (blks (x.file s) lba n) ∧ (∀ k, v.ownBlock = some k → w.heap.size ≤ k) ∧
      WU B w' wb (M + n) x F ∧ Nxt B F F w w' := by
  have hck := hide (check_in p wb s cache lba n w hs hl)
  have hbd := hide hW.bound
  have hBs : B ≤ w.heap.size := by
    obtain ⟨d, N, h, -⟩ := hW
    exact h.2.2
  have hlt := hs.lt
  replace hf := hide hf
  have hP : Hid (WU B w wb (M + 0) x F ∧ Nxt B F F w w ∧ Row w 259 19 encB (.slice none 0 0) (blks (x.file s) lba 0) ∧ ∀ k, (Value.slice none 0 0).ownBlock = some k → w.heap.size ≤ k) :=
    hide ⟨hW, ⟨Mod.refl _ _, Mod.below (Mod.refl F w) hBs (fun k hk => (hbd.out k hk).1), fun _ _ h => h⟩, Row.nil _ _ _ _, by simp [Value.ownBlock]⟩
  replace hs := hide hs; replace hW := hide hW
  obtain ⟨er, her⟩ : ∃ er : Int, er = if (x.seen s).isSome then 0 else 8 := ⟨_, rfl⟩
  have her2 : er = 0 ∨ er = 8 := by rw [her]; split <;> simp
  replace her := hide her
  rcases her2 with rfl | rfl
  all_goals
    go_enter Tryz.func136, Tryz.ntmps136
    go_wp2_with (go_at_call 157; (with_reducible refine hck.out.mono ?_); rintro e w1 ⟨rfl, rfl⟩)
    go_loopw [10, 22] (fun u v wr => ∃ k : Nat, k ≤ n ∧ v = .int .i64 k ∧ (∃ A m c, u = .slice A m c) ∧ Hid (WU B wr wb (M + k) x F ∧ Nxt B F F w wr ∧ Row wr 259 19 encB u (blks (x.file s) lba k) ∧ ∀ j, u.ownBlock = some j → w.heap.size ≤ j)) (fun _ v _ => n - (intOf v).toNat)
    case atStart => exact ⟨0, by omega, rfl, ⟨_, _, _, rfl⟩, hP⟩
    case round =>
      obtain ⟨k, hk, rfl, ⟨A, m, c, rfl⟩, hR⟩ := hrel
      clear hP
      have hs2 := hs.out.mod hR.out.2.1.1 hp
      by_cases hlk : k < n
      · have c0 := hs2.c0
        have c1 := hs2.c1
        have hplt := hs2.lt
        have hrd : Calls Tryz.prog 115 #[.pointer (some ⟨wb, 0, none⟩), .string s, .int .i64 (((lba + k) * 25 : Nat) : Int), .int .i64 25] wr.drew fun e w' => ∃ v er, e = .returned (.tuple #[v, .int .i64 er]) ∧ er = (if (x.seen s).isSome then 0 else 8) ∧ Row w' 5 1 (ic .u8) v (((x.file s).drop ((lba + k) * 25)).take 25) ∧
            (∀ j, v.ownBlock = some j → wr.drew.heap.size ≤ j) ∧ WU B w' wb (M + k + 1) x F ∧ Nxt B F F wr.drew w' := wu_read B wb (M + k) x F s ((lba + k) * 25) 25 wr.drew (hR.out.1.mod (G := fun _ => False) ((Mod.refl _ wr).drew) (by simp)) (by omega) h1 h2 (by omega) (by omega)
        have hbt : Bytes (((x.file s).drop ((lba + k) * 25)).take 25) := (hf.out.drop _).take _
        have hbl : (((x.file s).drop ((lba + k) * 25)).take 25).length ≤ 25 := by simp; omega
        obtain ⟨dp, hdp⟩ : ∃ dp, dp = decB (((x.file s).drop ((lba + k) * 25)).take 25) := ⟨_, rfl⟩
        have hbk : dp = blkAt (x.file s) (lba + k) := hdp
        generalize ((x.file s).drop ((lba + k) * 25)).take 25 = pl at *
        have e1 : ((((lba + k) * 25 : Nat)) : Int) = ((lba : Int) + k) * 25 := by push_cast; rfl
        have e2 : IntKind.i64.wrap ((lba : Int) + k) = (lba : Int) + k := IntWalk.i64_in _ (by omega)
        have e3 : IntKind.i64.wrap (((lba : Int) + k) * 25) = ((lba : Int) + k) * 25 := IntWalk.i64_in _ (by omega)
        rw [e1] at hrd
        replace hrd := hide hrd; replace hs2 := hide hs2; replace hbt := hide hbt; replace hbl := hide hbl; replace hdp := hide hdp; replace hbk := hide hbk
        clear e1
        go_wp2_with fail
        go_region_with (go_at_call 115; (with_reducible refine hrd.out.mono ?_); rintro e w2 ⟨v, er, rfl, her', hrow, hown, hW2, hN2⟩
                        rw [← her.out] at her'
                        subst her'
                        obtain ⟨A2, c2, rfl, hl2, hc2⟩ := hrow.slice
                        have hbc := block_any A2 pl.length c2 pl w2 (hrow.rd (ic_len _) rfl) hbt.out hl2 (by have := hbl.out; omega)
                        rw [← hdp.out] at hbc
                        replace hrow := hide hrow; replace hown := hide hown; replace hW2 := hide hW2; replace hN2 := hide hN2; replace hbc := hide hbc)
        all_goals
          clear e2 e3
          go_wp2_with (first
            | (go_at_call 158; (with_reducible refine hbc.out.mono ?_); rintro e w3 ⟨rfl, m3⟩
               have hbx : Rd (w3.alloc (.cells (ba dp) 259)) 19 encB (some ⟨w3.heap.size, 0, none⟩) 1 [dp] := Rd.box w3 encB dp 259
               obtain ⟨g1, g2, g3, g4⟩ := hR.out
               have n3 : Nxt B F F w w3 := (g2.trans (⟨Mod.drew (Mod.refl F wr), Mod.below (Mod.drew (Mod.refl F wr)) (Nat.le_trans hBs g2.1.size) (fun k hk => (hbd.out k hk).1), fun _ _ h => h⟩ : Nxt B F F wr wr.drew)).trans (hN2.out.trans ⟨m3.mono (fun _ _ h => h.elim), m3.below (Nat.le_trans hBs (Nat.le_trans g2.1.size hN2.out.1.size)) (fun _ h => h.elim), fun _ _ h => h⟩)
               have m13 : Mod F wr w3 := (Mod.drew (Mod.refl F wr)).trans (hN2.out.1.trans (m3.mono (G := F) (fun _ _ h => h.elim)) (fun _ _ h => h)) (fun _ _ h => h)
               have r3 := g3.mod m13 (fun j hj hF => by have := (hbd.out j hF).2; have := g4 j hj; omega)
               have W3 := hW2.out.mod m3 (fun _ _ h => h)
               clear g1 g2 g3
               replace n3 := hide n3; replace m13 := hide m13; replace r3 := hide r3; replace W3 := hide W3; replace m3 := hide m3; replace g4 := hide g4; replace hbx := hide hbx
               have r3a : Row (w3.alloc (.cells (ba dp) 259)) 259 19 encB (.slice A m c) (blks (x.file s) lba k) := r3.out.alloc _
               replace r3a := hide r3a)
            | (refine list_build (.tmp 51) rfl rfl dp rfl ?_)
            | (at_builtin; refine list_app (.tmp 49) (.tmp 52) 217 259 _ 19 24 encB rfl rfl encB_len encB_one Tryz.underlying217 elemB (.slice A m c) (blks (x.file s) lba k) (some ⟨w3.heap.size, 0, none⟩) 1 1 [dp] ?_ ?_ r3a.out hbx.out ?_ ?_ ?_
               (simp [Act.put, Act.eval])
               (simp [Act.put, Act.eval])
               (rw [blks_len]; simp [maxLen]; omega)
               (rw [blks_len]; omega)
               intro v4 w4 r4 gr4 a4
               rw [hbk.out, blks_snoc] at r4
               replace r4 := hide r4; replace gr4 := hide gr4; replace a4 := hide a4))
          obtain ⟨A4, n4, c4, rfl⟩ := r4.out.form
          go_roundw
          case rel =>
            have m34 : Mod (fun j => (Value.slice A m c).ownBlock = some j) w3 w4 := ((Mod.refl _ w3).alloc _).grown gr4.out (fun k hk => .inl hk)
            have M4 : Mod F w w4 := (n3.out.1.alloc _).grown gr4.out (fun k hk => .inr (g4.out k hk))
            refine ⟨k + 1, by omega, by go_num, ⟨_, _, _, rfl⟩, hide ⟨W3.out.mod m34 (fun j hj e => by have := (hbd.out j hj).2; have := g4.out j e; omega), ⟨M4, M4.below hBs (fun j hj => (hbd.out j hj).1), fun _ _ h => h⟩, r4.out, fun j hj => ?_⟩⟩
            rcases a4.out with e | e <;> rw [e] at hj
            · exact g4.out j hj
            · have h1 := n3.out.1.size
              simp at hj
              omega
          case measure => simp [intOf]; omega
      · obtain rfl : k = n := by omega
        go_wp2_with fail
        go_ret3
        obtain ⟨g1, g2, g3, g4⟩ := hR.out
        exact ⟨_, rfl, g3, g4, g1, g2⟩
end Go.Proofs.YtjkpelbhhapebaaGreatDoor
