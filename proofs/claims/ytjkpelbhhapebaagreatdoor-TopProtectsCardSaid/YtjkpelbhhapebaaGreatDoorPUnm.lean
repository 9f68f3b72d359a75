/-
  The store's Unmap and Sync, walked. Conditions: there is a cache; 32 blocks, the range lies in it; no call of the world's fails.
-/
import Derived.Test.YtjkpelbhhapebaaGreatDoorSWrite
namespace Go.Proofs.YtjkpelbhhapebaaGreatDoor
open Go.RowKit
open W (Nxt)
set_option maxRecDepth 100000
set_option maxHeartbeats 1000000 in
theorem clos_un (i : Nat) (w : World) :
    Calls Tryz.prog 164 #[.int .i64 i] w fun e w' => ∃ v, e = .returned v ∧ Row w' 5 1 (ic .u8) v [0] ∧ Mod (fun _ => False) w w' ∧ ∀ k, v.ownBlock = some k → w.heap.size ≤ k := by
  go_enter Tryz.func164, Tryz.ntmps164
  go_wp2
  go_ret
  exact ⟨_, rfl, row_lit (l := [0]) (heap_alloc_new _ _) (by decide), (Mod.refl _ w).alloc _, fun k hk => by simp [Value.ownBlock] at hk; omega⟩
/-- What a world holds behind k blocks were unmapped. -/
def unmN (x : Wx) (s : ByteArray) (lba : Nat) : Nat → Wx
  | 0 => x
  | k + 1 => (unmN x s lba k).wrote s ((lba + k) * 25) [0]
set_option maxHeartbeats 4000000 in
theorem layu_in (B M p wb : Nat) (x : Wx) (F : Nat → Prop) (s : ByteArray) (lba n : Nat) (w : World) (hs : ST w p wb s true) (hW : WU B w wb M x F) (hp : ¬ F p) (hM : M < 90000) (hl : lba + n ≤ 32) (h1 : 1 ≤ s.size) (h2 : s.size ≤ 32) :
    Calls Tryz.prog 161 #[.pointer (some ⟨p, 0, none⟩), .int .i64 lba, .int .i64 n, .func (.func 164) #[] #[], .bool false] w fun e w' => ∃ F', e = .returned (.tuple #[.int .i64 n, .int .i64 0]) ∧
      WU B w' wb (M + 2 * n + 1) (unmN x s lba n) F' ∧ Nxt B F F' w w' := by
  have hbd := hide hW.bound
  have hBs : B ≤ w.heap.size := by
    obtain ⟨d, N, h, -⟩ := hW
    exact h.2.2
  have hlt := hs.lt
  have hP : Hid (∃ F', WU B w wb (M + 2 * 0) (unmN x s lba 0) F' ∧ Nxt B F F' w w) := hide ⟨F, hW, W.Nxt.refl F w hBs (fun k hk => (hbd.out k hk).1)⟩
  replace hs := hide hs; replace hW := hide hW
  go_enter Tryz.func161, Tryz.ntmps161
  go_wp2_with fail
  go_loopw [15] (fun v wr => ∃ k : Nat, k ≤ n ∧ v = .int .i64 k ∧ Hid (∃ F', WU B wr wb (M + 2 * k) (unmN x s lba k) F' ∧ Nxt B F F' w wr)) (fun v _ => n - (intOf v).toNat)
  case atStart => exact ⟨0, by omega, rfl, hP⟩
  case round =>
    obtain ⟨k, hk, rfl, hR⟩ := hrel
    clear hP
    obtain ⟨Fk, hWk, hNk⟩ := hR.out
    clear hR
    have hs2 := hs.out.mod hNk.1 hp
    by_cases hlk : k < n
    · have c0 := hs2.c0
      have c1 := hs2.c1
      have hplt := hs2.lt
      have hcl := clos_un k wr.drew
      have e1 : ((((lba + k) * 25 : Nat)) : Int) = ((lba : Int) + k) * 25 := by push_cast; rfl
      have e2 : IntKind.i64.wrap ((lba : Int) + k) = (lba : Int) + k := IntWalk.i64_in _ (by omega)
      have e3 : IntKind.i64.wrap (((lba : Int) + k) * 25) = ((lba : Int) + k) * 25 := IntWalk.i64_in _ (by omega)
      replace hcl := hide hcl; replace hs2 := hide hs2; replace hWk := hide hWk; replace hNk := hide hNk; replace e1 := hide e1
      go_wp2_with fail
      go_region_with (first
        | (go_at_call 164; (with_reducible refine hcl.out.mono ?_); rintro e w2 ⟨v, rfl, hrow, m2, hown⟩
           have hs3 := hs2.out.mod (Mod.trans (F := fun _ => False) ((Mod.refl _ wr).drew) m2 (fun _ _ h => h)) (fun h => h)
           have c02 := hs3.c0
           have c12 := hs3.c1
           have hplt2 := hs3.lt
           obtain ⟨A2, c2, rfl, hl2, hc2⟩ := hrow.slice
           have hwr : Calls Tryz.prog 153 #[.pointer (some ⟨wb, 0, none⟩), .string s, .int .i64 (((lba + k) * 25 : Nat) : Int), .slice A2 1 c2] w2 fun e w' => ∃ F', e = .returned (.int .i64 0) ∧ WU B w' wb (M + 2 * k + 2) ((unmN x s lba k).wrote s ((lba + k) * 25) [0]) F' ∧ Nxt B Fk F' w2 w' :=
             wu_write B wb (M + 2 * k) _ Fk s ((lba + k) * 25) A2 _ c2 [0] w2 (hWk.out.mod (G := fun _ => False) (((Mod.refl _ wr).drew).trans m2 (fun _ _ h => h)) (fun _ _ h => h)) (by omega) h1 h2 (hrow.rd (ic_len _) rfl) (by simp; omega)
           rw [e1.out] at hwr
           have hN2 := (hNk.out.add (Nat.le_trans hBs hNk.out.1.size) ((Mod.refl _ wr).drew)).add (Nat.le_trans hBs hNk.out.1.size) m2
           replace hs3 := hide hs3; replace hrow := hide hrow; replace hwr := hide hwr; replace hN2 := hide hN2; replace hown := hide hown; replace m2 := hide m2)
        | (go_at_call 153; (with_reducible refine hwr.out.mono ?_); rintro e w3 ⟨F3, rfl, hW3, hN3⟩
           replace hW3 := hide hW3; replace hN3 := hide hN3))
      all_goals
        clear e2 e3
        go_wp2_with fail
        go_roundw
        case rel => exact ⟨k + 1, by omega, by go_num, hide ⟨F3, hW3.out.le (by omega), hN2.out.trans hN3.out⟩⟩
        case measure => simp [intOf]; omega
    · obtain rfl : k = n := by omega
      have c0 := hs2.c0
      have c3 := hs2.c3
      have hplt := hs2.lt
      replace hs2 := hide hs2; replace hWk := hide hWk; replace hNk := hide hNk
      rcases Nat.eq_zero_or_pos k with h0 | h0
      · have hd : decide (0 < (k : Int)) = false := by simp; omega
        go_wp2_with fail
        go_ret2
        exact ⟨Fk, rfl, hWk.out.le (by omega), hNk.out⟩
      · have hd : decide (0 < (k : Int)) = true := by simp; omega
        go_wp2_with fail
        go_ret2
        exact ⟨Fk, rfl, hWk.out.le (by omega), hNk.out⟩
/-- Unmap. -/
theorem unmap_in (B M p wb : Nat) (x : Wx) (F : Nat → Prop) (s : ByteArray) (lba n : Nat) (w : World) (hs : ST w p wb s true) (hW : WU B w wb M x F) (hp : ¬ F p) (hM : M < 90000) (hl : lba + n ≤ 32) (h1 : 1 ≤ s.size) (h2 : s.size ≤ 32) :
    Calls Tryz.prog 143 #[.pointer (some ⟨p, 0, none⟩), .int .i64 lba, .int .i64 n] w fun e w' => ∃ F', e = .returned (.tuple #[.int .i64 n, .int .i64 0]) ∧
      WU B w' wb (M + 2 * n + 1) (unmN x s lba n) F' ∧ Nxt B F F' w w' := by
  have hck := check_in p wb s true lba n _ hs hl
  have hly := layu_in B M p wb x F s lba n _ hs hW hp hM hl h1 h2
  replace hs := hide hs; replace hW := hide hW; replace hck := hide hck; replace hly := hide hly
  go_enter Tryz.func143, Tryz.ntmps143
  go_wp2_with (first
    | (go_at_call 157; (with_reducible refine hck.out.mono ?_); rintro e w1 ⟨rfl, rfl⟩)
    | (go_at_call 161; (with_reducible refine hly.out.mono ?_); rintro e w1 ⟨F', rfl, hW3, hN3⟩
       replace hW3 := hide hW3; replace hN3 := hide hN3))
  go_ret2
  exact ⟨F', rfl, hW3.out, hN3.out⟩
/-- Sync. -/
theorem ssync_in (B M p wb : Nat) (x : Wx) (F : Nat → Prop) (s : ByteArray) (cache : Bool) (w : World) (hs : ST w p wb s cache) (hW : WU B w wb M x F) (hM : M < 90000) :
    Calls Tryz.prog 106 #[.pointer (some ⟨p, 0, none⟩)] w fun e w' => ∃ F', e = .returned (.int .i64 0) ∧ WU B w' wb (M + 1) x.synced F' ∧ Nxt B F F' w w' := by
  have hsy := wu_sync B wb M x F w hW (by omega)
  have c0 := hs.c0
  have hlt := hs.lt
  replace hs := hide hs; replace hW := hide hW; replace hsy := hide hsy
  go_enter Tryz.func106, Tryz.ntmps106
  go_wp2_with (go_at_call 142; (with_reducible refine hsy.out.mono ?_); rintro e w3 ⟨F3, rfl, hW3, hN3⟩
               replace hW3 := hide hW3; replace hN3 := hide hN3)
  go_ret
  exact ⟨F3, rfl, hW3.out, hN3.out⟩
end Go.Proofs.YtjkpelbhhapebaaGreatDoor
