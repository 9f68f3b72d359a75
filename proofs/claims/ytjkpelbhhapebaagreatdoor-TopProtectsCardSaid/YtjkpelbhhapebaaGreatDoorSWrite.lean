/-
  The store's Write: its closure, lay, walked. Conditions: 32 blocks, the range lies in it; no call of the world's fails; the blocks are well.
-/
import Derived.Test.YtjkpelbhhapebaaGreatDoorSRead
namespace Go.Proofs.YtjkpelbhhapebaaGreatDoor
open Go.RowKit
open W (Nxt)
set_option maxRecDepth 100000
theorem Rd.elemB {w : World} {A : Option Addr} {n : Nat} {vs : List Bl} (h : Rd w 19 encB A n vs) (i : Nat) (hi : i < n) : ∃ ad, A = some ad ∧ ∀ j u, (encB (gi vs i))[j]? = some u → w.cell? ((ad.add (i * 19)).add j) = some u := by
  obtain ⟨ad, e, hc⟩ := h.2 i hi
  refine ⟨ad, e, fun j u hu => ?_⟩
  rw [addr_add]
  exact hc j u hu
set_option maxHeartbeats 1000000 in
theorem clos_in (g i n c : Nat) (A : Option Addr) (l : List Bl) (w : World) (hg : w.cell? ⟨g, 0, none⟩ = some (.slice A n c)) (hr : Rd w 19 encB A n l) (hi : i < n) (hb : OkBl (gi l i)) :
    Calls Tryz.prog 162 #[.int .i64 i, .pointer (some ⟨g, 0, none⟩)] w fun e w' => ∃ v, e = .returned v ∧ Row w' 5 1 (ic .u8) v (rec (gi l i)) ∧ Mod (fun _ => False) w w' ∧ ∀ k, v.ownBlock = some k → w.heap.size ≤ k := by
  obtain ⟨ad, rfl, hc⟩ := hr.elemB i hi
  have hrec : Calls Tryz.prog 163 #[.agg (encB (gi l i)).toArray] w fun e w' => ∃ v, e = .returned v ∧ Row w' 5 1 (ic .u8) v (rec (gi l i)) ∧ Mod (fun _ => False) w w' ∧ ∀ k, v.ownBlock = some k → w.heap.size ≤ k := record_any (gi l i) w hb
  generalize gi l i = b at *
  replace hc := hide hc; replace hrec := hide hrec; replace hr := hide hr; replace hb := hide hb
  go_enter Tryz.func162, Tryz.ntmps162
  go_wp2_with (first
    | (refine list_load 259 (.tmp 6) rfl rfl _ Tryz.underlying259 rfl (ad.add (i * 19)) (encB b) (size259' _) rfl hc.out ?_)
    | (go_at_call 163; (with_reducible refine hrec.out.mono ?_); rintro e w1 ⟨v, rfl, h1⟩
       obtain ⟨A1, n1, c1, rfl⟩ := h1.1.form
       replace h1 := hide h1))
  go_ret
  exact ⟨_, rfl, h1.out⟩
/-- What a world holds behind the writes of k blocks. -/
def wroteN (x : Wx) (s : ByteArray) (lba : Nat) (l : List Bl) : Nat → Wx
  | 0 => x
  | k + 1 => (wroteN x s lba l k).wrote s ((lba + k) * 25) (rec (gi l k))
def laidX (x : Wx) (s : ByteArray) (lba : Nat) (l : List Bl) (durable : Bool) : Wx := if 0 < l.length ∧ durable = true then (wroteN x s lba l l.length).synced else wroteN x s lba l l.length
theorem rec_len (b : Bl) (hb : OkBl b) : (rec b).length = 25 := by simp [rec, hb.1]
theorem W.Nxt.add {B : Nat} {F F' : Nat → Prop} {a b c : World} (h : Nxt B F F' a b) (hB : B ≤ b.heap.size) (m : Mod (fun _ => False) b c) : Nxt B F F' a c :=
  ⟨h.1.trans (m.mono (G := F') (fun _ _ h => h.elim)) h.2.2, h.2.1.trans (m.below hB (fun _ h => h.elim)), h.2.2⟩
set_option maxHeartbeats 4000000 in
theorem lay_in (B M p wb g c : Nat) (x : Wx) (F : Nat → Prop) (s : ByteArray) (cache fua : Bool) (lba : Nat) (A : Option Addr) (l : List Bl) (w : World) (hs : ST w p wb s cache) (hW : WU B w wb M x F) (hp : ¬ F p) (hM : M < 90000) (hl : lba + l.length ≤ 32) (h1 : 1 ≤ s.size) (h2 : s.size ≤ 32)
    (hg : w.cell? ⟨g, 0, none⟩ = some (.slice A l.length c)) (hgF : ¬ F g) (hr : Rd w 19 encB A l.length l) (hA : ∀ ad, A = some ad → ¬ F ad.block ∧ ad.block < w.heap.size) (hb : ∀ b ∈ l, OkBl b) :
    Calls Tryz.prog 161 #[.pointer (some ⟨p, 0, none⟩), .int .i64 lba, .int .i64 l.length, .func (.func 162) #[] #[.pointer (some ⟨g, 0, none⟩)], .bool fua] w fun e w' => ∃ F', e = .returned (.tuple #[.int .i64 l.length, .int .i64 0]) ∧
      WU B w' wb (M + 2 * l.length + 1) (laidX x s lba l (fua || !cache)) F' ∧ Nxt B F F' w w' := by
  have hbd := hide hW.bound
  have hBs : B ≤ w.heap.size := by
    obtain ⟨d, N, h, -⟩ := hW
    exact h.2.2
  have hlt := hs.lt
  have hglt : g < w.heap.size := World.block_lt_of_cell? w _ hg
  have hP : Hid (∃ F', WU B w wb (M + 2 * 0) (wroteN x s lba l 0) F' ∧ Nxt B F F' w w) := hide ⟨F, hW, W.Nxt.refl F w hBs (fun k hk => (hbd.out k hk).1)⟩
  obtain ⟨n, hn⟩ : ∃ n, n = l.length := ⟨_, rfl⟩
  rw [← hn] at hl hg hr ⊢
  have hgi : Hid (∀ k, k < n → OkBl (gi l k)) := hide fun k hk => by
    rw [gi_eq l k (by omega)]
    exact hb _ (List.getElem_mem _)
  replace hs := hide hs; replace hW := hide hW; replace hg := hide hg; replace hr := hide hr; replace hA := hide hA; replace hn := hide hn; replace hb := hide hb
  go_enter Tryz.func161, Tryz.ntmps161
  go_wp2_with fail
  go_loopw [15] (fun v wr => ∃ k : Nat, k ≤ n ∧ v = .int .i64 k ∧ Hid (∃ F', WU B wr wb (M + 2 * k) (wroteN x s lba l k) F' ∧ Nxt B F F' w wr)) (fun v _ => n - (intOf v).toNat)
  case atStart => exact ⟨0, by omega, rfl, hP⟩
  case round =>
    obtain ⟨k, hk, rfl, hR⟩ := hrel
    clear hP
    obtain ⟨Fk, hWk, hNk⟩ := hR.out
    clear hR
    have hs2 := hs.out.mod hNk.1 hp
    by_cases hlk : k < n
    · have c0 := hs2.c0
      have c1 := hs2.c1
      have hplt := hs2.lt
      have hgc := hNk.1.cell hg.out hgF
      have hrk := hr.out.mod hNk.1 (fun ad e => (hA.out ad e).1)
      have hcl := clos_in g k n c A l wr.drew hgc (hrk.drew) hlk (hgi.out k hlk)
      have e1 : ((((lba + k) * 25 : Nat)) : Int) = ((lba : Int) + k) * 25 := by push_cast; rfl
      have e2 : IntKind.i64.wrap ((lba : Int) + k) = (lba : Int) + k := IntWalk.i64_in _ (by omega)
      have e3 : IntKind.i64.wrap (((lba : Int) + k) * 25) = ((lba : Int) + k) * 25 := IntWalk.i64_in _ (by omega)
      replace hcl := hide hcl; replace hs2 := hide hs2; replace hgc := hide hgc; replace hrk := hide hrk; replace hWk := hide hWk; replace hNk := hide hNk; replace e1 := hide e1
      go_wp2_with fail
      go_region_with (first
        | (go_at_call 162; (with_reducible refine hcl.out.mono ?_); rintro e w2 ⟨v, rfl, hrow, m2, hown⟩
           have hs3 := hs2.out.mod (Mod.trans (F := fun _ => False) ((Mod.refl _ wr).drew) m2 (fun _ _ h => h)) (fun h => h)
           have c02 := hs3.c0
           have c12 := hs3.c1
           have hplt2 := hs3.lt
           obtain ⟨A2, c2, rfl, hl2, hc2⟩ := hrow.slice
           have hwr : Calls Tryz.prog 153 #[.pointer (some ⟨wb, 0, none⟩), .string s, .int .i64 (((lba + k) * 25 : Nat) : Int), .slice A2 (rec (gi l k)).length c2] w2 fun e w' => ∃ F', e = .returned (.int .i64 0) ∧ WU B w' wb (M + 2 * k + 2) ((wroteN x s lba l k).wrote s ((lba + k) * 25) (rec (gi l k))) F' ∧ Nxt B Fk F' w2 w' :=
             wu_write B wb (M + 2 * k) _ Fk s ((lba + k) * 25) A2 _ c2 (rec (gi l k)) w2 (hWk.out.mod (G := fun _ => False) (((Mod.refl _ wr).drew).trans m2 (fun _ _ h => h)) (fun _ _ h => h)) (by omega) h1 h2 (hrow.rd (ic_len _) rfl) (by rw [rec_len _ (hgi.out k hlk)]; omega)
           rw [e1.out] at hwr
           have hN2 := (hNk.out.add (Nat.le_trans hBs hNk.out.1.size) ((Mod.refl _ wr).drew)).add (Nat.le_trans hBs hNk.out.1.size) m2
           replace hs3 := hide hs3; replace hrow := hide hrow; replace hwr := hide hwr; replace hN2 := hide hN2; replace hown := hide hown; replace m2 := hide m2)
        | (go_at_call 153; (with_reducible refine hwr.out.mono ?_); rintro e w3 ⟨F3, rfl, hW3, hN3⟩
           replace hW3 := hide hW3; replace hN3 := hide hN3))
      all_goals
        clear e2 e3
        go_wp2_with fail
        go_roundw
        case rel => exact ⟨k + 1, by omega, by go_num, hide ⟨F3, hW3.out.le (by omega), hN2.out.trans hN3.out⟩⟩
        case measure => simp [intOf]; omega
    · obtain rfl : k = n := by omega
      have c0 := hs2.c0
      have c3 := hs2.c3
      have hplt := hs2.lt
      have hsy := wu_sync B wb (M + 2 * k) _ Fk wr hWk (by omega)
      replace hsy := hide hsy; replace hs2 := hide hs2; replace hWk := hide hWk; replace hNk := hide hNk
      rcases Nat.eq_zero_or_pos k with h0 | h0
      · have hd : decide (0 < (k : Int)) = false := by simp; omega
        have hx : laidX x s lba l (fua || !cache) = wroteN x s lba l k := by rw [laidX, ← hn.out, if_neg (by omega)]
        replace hx := hide hx
        go_wp2_with fail
        go_ret2
        exact ⟨Fk, rfl, by rw [hx.out]; exact hWk.out.le (by omega), hNk.out⟩
      · have hd : decide (0 < (k : Int)) = true := by simp; omega
        cases fua <;> cases cache
        case false.true =>
          have hx : laidX x s lba l (false || !true) = wroteN x s lba l k := by rw [laidX, ← hn.out, if_neg (by simp)]
          replace hx := hide hx
          go_wp2_with fail
          go_ret2
          exact ⟨Fk, rfl, by rw [hx.out]; exact hWk.out.le (by omega), hNk.out⟩
        case false.false =>
          have hx : laidX x s lba l (false || !false) = (wroteN x s lba l k).synced := by rw [laidX, ← hn.out, if_pos ⟨h0, by rfl⟩]
          replace hx := hide hx
          go_wp2_with (go_at_call 142; (with_reducible refine hsy.out.mono ?_); rintro e w3 ⟨F3, rfl, hW3, hN3⟩
                       replace hW3 := hide hW3; replace hN3 := hide hN3)
          go_ret2
          exact ⟨F3, rfl, by rw [hx.out]; exact hW3.out, hNk.out.trans hN3.out⟩
        case true.true =>
          have hx : laidX x s lba l (true || !true) = (wroteN x s lba l k).synced := by rw [laidX, ← hn.out, if_pos ⟨h0, by rfl⟩]
          replace hx := hide hx
          go_wp2_with (go_at_call 142; (with_reducible refine hsy.out.mono ?_); rintro e w3 ⟨F3, rfl, hW3, hN3⟩
                       replace hW3 := hide hW3; replace hN3 := hide hN3)
          go_ret2
          exact ⟨F3, rfl, by rw [hx.out]; exact hW3.out, hNk.out.trans hN3.out⟩
        case true.false =>
          have hx : laidX x s lba l (true || !false) = (wroteN x s lba l k).synced := by rw [laidX, ← hn.out, if_pos ⟨h0, by rfl⟩]
          replace hx := hide hx
          go_wp2_with (go_at_call 142; (with_reducible refine hsy.out.mono ?_); rintro e w3 ⟨F3, rfl, hW3, hN3⟩
                       replace hW3 := hide hW3; replace hN3 := hide hN3)
          go_ret2
          exact ⟨F3, rfl, by rw [hx.out]; exact hW3.out, hNk.out.trans hN3.out⟩
/-- Write. -/
theorem write_in (B M p wb c : Nat) (x : Wx) (F : Nat → Prop) (s : ByteArray) (cache fua : Bool) (lba : Nat) (A : Option Addr) (l : List Bl) (w : World) (hs : ST w p wb s cache) (hW : WU B w wb M x F) (hp : ¬ F p) (hM : M < 90000) (hl : lba + l.length ≤ 32) (h1 : 1 ≤ s.size) (h2 : s.size ≤ 32)
    (hr : Rd w 19 encB A l.length l) (hA : ∀ ad, A = some ad → ¬ F ad.block ∧ ad.block < w.heap.size) (hb : ∀ b ∈ l, OkBl b) :
    Calls Tryz.prog 140 #[.pointer (some ⟨p, 0, none⟩), .int .i64 lba, .slice A l.length c, .bool fua] w fun e w' => ∃ F', e = .returned (.tuple #[.int .i64 l.length, .int .i64 0]) ∧
      WU B w' wb (M + 2 * l.length + 1) (laidX x s lba l (fua || !cache)) F' ∧ Nxt B F F' w w' := by
  have hbd := hW.bound
  have hBs : B ≤ w.heap.size := by
    obtain ⟨d, N, h, -⟩ := hW
    exact h.2.2
  have m1 : Mod (fun _ => False) w (w.alloc (.cells #[.slice A l.length c] 217)) := (Mod.refl _ w).alloc _
  have hg : (w.alloc (.cells #[.slice A l.length c] 217)).cell? ⟨w.heap.size, 0, none⟩ = some (.slice A l.length c) := by rw [World.cell?_alloc_new]; rfl
  have hck := check_in p wb s cache lba l.length _ (hs.mod m1 (fun h => h)) hl
  have hly := lay_in B M p wb w.heap.size c x F s cache fua lba A l _ (hs.mod m1 (fun h => h)) (hW.mod m1 (fun _ _ h => h)) hp hM hl h1 h2 hg (fun h => by have := (hbd _ h).2; omega) (hr.mod m1 (fun _ _ h => h)) (fun ad e => ⟨(hA ad e).1, Nat.lt_of_lt_of_le (hA ad e).2 m1.size⟩) hb
  have hN := (W.Nxt.refl F w hBs (fun k hk => (hbd k hk).1)).add hBs m1
  have hmf : ∀ (fn : Fn) (first cap : Array Value) (w : World), (Instr.makeFunc fn first cap).run Tryz.prog w = .ok (.func fn first cap) w := fun _ _ _ _ => rfl
  have hlt := hs.lt
  replace hs := hide hs; replace hW := hide hW; replace hr := hide hr; replace hck := hide hck; replace hly := hide hly; replace hN := hide hN; replace hA := hide hA; replace hb := hide hb; replace hbd := hide hbd; replace m1 := hide m1
  go_enter Tryz.func140, Tryz.ntmps140
  go_wp2_with (first
    | (go_at_call 157; (with_reducible refine hck.out.mono ?_); rintro e w1 ⟨rfl, rfl⟩)
    | (go_at_call 161; (with_reducible refine hly.out.mono ?_); rintro e w1 ⟨F', rfl, hW3, hN3⟩
       replace hW3 := hide hW3; replace hN3 := hide hN3))
  go_ret2
  exact ⟨F', rfl, hW3.out, hN.out.trans hN3.out⟩
end Go.Proofs.YtjkpelbhhapebaaGreatDoor
