/-
  slots.name, walked; bytes as a string. Condition: a digit. slots.Load where nothing was saved, walked. Conditions: neither of the two files is there. The unit's load where nothing was kept, walked; the queues' operations on the unit's state. Conditions: as stated.
-/
import Derived.Test.YtjkpelbhhapebaaGreatDoorUnit1
import Derived.Deep.RegionWith
import Derived.Test.YtjkpelbhhapebaaGreatDoorStart
import Derived.Deep.RegionHeld3
namespace Go.Proofs.YtjkpelbhhapebaaGreatDoor
open Go.RowKit
set_option maxRecDepth 100000
/-- Bytes as a string. -/
def strOf (L : List Int) : ByteArray := L.foldl (fun r n => r.push (UInt8.ofNat n.toNat)) ByteArray.empty
theorem conv_str {w : World} {A : Option Addr} {n c : Nat} {L : List Int} (h : Rd w 1 (ic .u8) A n L) : (convert 22 9 (.slice A n c)).run Tryz.prog w = .ok (.string (strOf L)) w := by
  rw [run_convert_bytes_string w 22 9 5 A n c Tryz.underlying22 Tryz.underlying5 Tryz.underlying9]
  have hn : L.length = n := h.1
  cases A with
  | none =>
    have h0 : n = 0 := by
      rcases Nat.eq_zero_or_pos n with h0 | h0
      · exact h0
      · obtain ⟨ad, e, _⟩ := h.2 0 h0; cases e
    subst h0
    obtain rfl : L = [] := List.eq_nil_of_length_eq_zero hn
    simp [Conv.bytesToString, strOf, Sem.run_pure]
  | some ad =>
    have hl := run_loadCells_list (P := Tryz.prog) w ad (L.map (Value.int .u8)) (fun j u hu => by
      rw [List.getElem?_map] at hu
      obtain ⟨x, hx, rfl⟩ := Option.map_eq_some_iff.1 hu
      have hj : j < n := by rw [← hn]; exact (List.getElem?_eq_some_iff.1 hx).1
      obtain ⟨ad', e, hc⟩ := h.int j hj
      obtain rfl := Option.some.inj e
      rw [hc, gi_eq L j (by omega), (List.getElem?_eq_some_iff.1 hx).2])
    rw [List.length_map, hn] at hl
    exact run_bytesToString w ad n c L hl
/-- The name of a slot's file. -/
def spn (i : Nat) : ByteArray := if i = 0 then ⟨#[117, 46, 112, 46, 48]⟩ else ⟨#[117, 46, 112, 46, 49]⟩
set_option maxHeartbeats 2000000 in
theorem name_in (kp wb i : Nat) (sure : Bool) (at_ gen : Int) (w : World) (h : SL w kp wb sp sure at_ gen) (hi : i = 0 ∨ i = 1) :
    Calls Tryz.prog 116 #[.pointer (some ⟨kp, 0, none⟩), .int .i64 i] w fun e w' => e = .returned (.string (spn i)) ∧ Mod (fun _ => False) w w' := by
  have k1 : w.cell? ⟨kp, 1, none⟩ = some (.string sp) := by rw [cell_of_row w kp 1 _ 174 (0, 0) h]; rfl
  have hlt : kp < w.heap.size := (Array.getElem?_eq_some_iff.1 h).1
  have c0 : (convert 22 9 (.slice (some ⟨w.heap.size, 0, none⟩) 1 1)).run Tryz.prog (w.alloc (.cells #[.int .u8 48] 5)).drew = .ok (.string (strOf [48])) (w.alloc (.cells #[.int .u8 48] 5)).drew := conv_str (rd_block (k := .u8) (l := [48]) (show ((w.alloc (.cells #[.int .u8 48] 5)).drew).heap[w.heap.size]? = _ from heap_alloc_new _ _) rfl) (c := 1)
  have c1 : (convert 22 9 (.slice (some ⟨w.heap.size, 0, none⟩) 1 1)).run Tryz.prog (w.alloc (.cells #[.int .u8 49] 5)).drew = .ok (.string (strOf [49])) (w.alloc (.cells #[.int .u8 49] 5)).drew := conv_str (rd_block (k := .u8) (l := [49]) (show ((w.alloc (.cells #[.int .u8 49] 5)).drew).heap[w.heap.size]? = _ from heap_alloc_new _ _) rfl) (c := 1)
  have hE : Hid (Mod (fun _ => False) w (w.alloc (.cells #[.int .u8 48] 5)).drew ∧ Mod (fun _ => False) w (w.alloc (.cells #[.int .u8 49] 5)).drew) := hide ⟨((Mod.refl _ w).alloc _).drew, ((Mod.refl _ w).alloc _).drew⟩
  have e0 : Hid ((sp ++ ⟨#[46]⟩ ++ strOf [48]) = spn 0) := hide (by rfl)
  have e1 : Hid ((sp ++ ⟨#[46]⟩ ++ strOf [49]) = spn 1) := hide (by rfl)
  have z0 : (strOf [48]).size = 1 := by rfl
  have z1 : (strOf [49]).size = 1 := by rfl
  have zs : sp.size = 3 := by rfl
  generalize sp = s at *
  generalize strOf [48] = x0 at *
  generalize strOf [49] = x1 at *
  replace h := hide h
  have hS : ∀ W : World, Mod (fun _ => False) w W → W.cell? ⟨kp, 1, none⟩ = some (.string s) := fun W m => m.cell k1 (fun h => h)
  replace hS := hide hS
  have q0 : Hid (Ending.returned (.string (s ++ ⟨#[46]⟩ ++ x0)) = .returned (.string (spn 0))) := hide (by rw [e0.out])
  have q1 : Hid (Ending.returned (.string (s ++ ⟨#[46]⟩ ++ x1)) = .returned (.string (spn 1))) := hide (by rw [e1.out])
  have w1 : IntKind.i64.wrap 48 = 48 := by decide
  have w2 : IntKind.i64.wrap 49 = 49 := by decide
  have w3 : IntKind.u8.wrap 48 = 48 := by decide
  have w4 : IntKind.u8.wrap 49 = 49 := by decide
  rcases hi with rfl | rfl
  all_goals
    go_enter Tryz.func116, Tryz.ntmps116
    go_wp2_with fail
    go_region_with (fail)
    all_goals go_wp2_with fail
    all_goals go_ret
    all_goals first | exact ⟨q0.out, hE.out.1⟩ | exact ⟨q1.out, hE.out.2⟩
end Go.Proofs.YtjkpelbhhapebaaGreatDoor
namespace Go.Proofs.YtjkpelbhhapebaaGreatDoor
open Go.RowKit
open W (Nxt)
set_option maxRecDepth 100000
section
variable {B : Nat} {c c' : Nat → Nat} {w w' : World} {a : UA} {S : US} {mu : Int}
/-- The world's part has turned within its own blocks. -/
theorem UN.world0 (h : UN B c w a S mu) {F : Nat → Prop} (hF : ∀ k, F k → c k = 1) (M' : Nat) (x' : Wx) (hW : WU B w' a.wb M' x' F) (hN : Nxt B F F w w') :
    UN B c w' a { S with x := x', bd := M' } mu ∧ UX B c c w w' := by
  obtain ⟨-, r2, r3, r4, r5, r6, r7, r8⟩ := h.rest hN.1 1 hF (fun _ _ => rfl)
  have hs := hN.1.size
  exact ⟨⟨⟨F, hW, hF⟩, r2 (by decide), r3 (by decide), r4 (by decide), r5 (by decide), r6 (by decide), r7 (by decide), r8 (by decide), fun k hk => h.sup k (Nat.le_trans hs hk), Nat.le_trans h.big hs⟩, UX.of hN.1 hF (by decide) hN.2.1 (fun _ _ => rfl)⟩
theorem UN.read (h : UN B c w a S mu) (s : ByteArray) (off n : Nat) (hM : S.bd < 100000) (h1 : 1 ≤ s.size) (h2 : s.size ≤ 32) (hn : n ≤ 100000) (ho : off ≤ 100000) :
    Calls Tryz.prog 115 #[.pointer (some ⟨a.wb, 0, none⟩), .string s, .int .i64 off, .int .i64 n] w fun e w' => ∃ v er, e = .returned (.tuple #[v, .int .i64 er]) ∧ er = (if (S.x.seen s).isSome then 0 else 8) ∧ Row w' 5 1 (ic .u8) v (((S.x.file s).drop off).take n) ∧
      (∀ k, v.ownBlock = some k → w.heap.size ≤ k) ∧ UN B c w' a { S with bd := S.bd + 1 } mu ∧ UX B c c w w' := by
  obtain ⟨F, hW, hF⟩ := h.wu
  exact (wu_read B a.wb S.bd S.x F s off n w hW hM h1 h2 hn ho).mono fun e w' ⟨v, er, e1, e2, e3, e4, e5, e6⟩ => by
    have := h.world0 hF (S.bd + 1) S.x e5 e6
    exact ⟨v, er, e1, e2, e3, e4, this.1, this.2⟩
theorem UN.slc (h : UN B c w a S mu) : w.cell? ⟨a.kp, 0, none⟩ = some (.pointer (some ⟨a.wb, 0, none⟩)) ∧ w.cell? ⟨a.kp, 2, none⟩ = some (.bool S.sure) ∧ w.cell? ⟨a.kp, 3, none⟩ = some (.int .i64 S.at_) ∧ w.cell? ⟨a.kp, 4, none⟩ = some (.int .u64 S.gen) ∧ ∀ i, w.frozen? ⟨a.kp, i, none⟩ = false := by
  refine ⟨?_, ?_, ?_, ?_, fun i => frozen_of_row w a.kp i _ 174 h.slo.1⟩ <;> rw [cell_of_row w a.kp _ _ 174 (0, 0) h.slo.1] <;> rfl
/-- A store into the slots' block. -/
theorem UN.slput (h : UN B c w a S mu) (i : Nat) (v : Value) (sure : Bool) (at_ gen : Int)
    (e : (#[.pointer (some ⟨a.wb, 0, none⟩), .string sp, .bool S.sure, .int .i64 S.at_, .int .u64 S.gen] : Array Value).setIfInBounds i v = #[.pointer (some ⟨a.wb, 0, none⟩), .string sp, .bool sure, .int .i64 at_, .int .u64 gen]) :
    UN B c (w.setCell ⟨a.kp, i, none⟩ v) a { S with sure := sure, at_ := at_, gen := gen } mu ∧ UX B c c w (w.setCell ⟨a.kp, i, none⟩ v) :=
  h.slots (by unfold SL; rw [heap_setCell_same w a.kp i _ 174 _ h.slo.1, e]) (mod_s (Mod.refl _ w)) (by simp [World.setCell])
end
theorem decode_short (A : Option Addr) (n cap : Nat) (w : World) (h : n < 20) : Calls Tryz.prog 117 #[.slice A n cap] w fun e w' => e = .returned (.tuple #[.int .u64 0, .slice none 0 0, .int .i64 3]) ∧ w = w' := by
  have d1 : decide ((n : Int) < 20) = true := by simp; omega
  go_enter Tryz.func117, Tryz.ntmps117
  go_wp2
  go_ret3
  exact ⟨rfl, rfl⟩
theorem spn_size (i : Nat) : 1 ≤ (spn i).size ∧ (spn i).size ≤ 32 := by
  unfold spn
  split <;> exact ⟨by decide, by decide⟩
set_option maxHeartbeats 4000000 in
theorem slload_none (B : Nat) (c : Nat → Nat) (a : UA) (S : US) (mu : Int) (w : World) (h : UN B c w a S mu) (hM : S.bd < 90000) (h0 : S.x.seen (spn 0) = none) (h1 : S.x.seen (spn 1) = none) :
    Calls Tryz.prog 70 #[.pointer (some ⟨a.kp, 0, none⟩)] w fun e w' => e = .returned (.tuple #[.slice none 0 0, .int .u64 0, .int .i64 8]) ∧ UN B c w' a { S with bd := S.bd + 2, sure := true, at_ := -1, gen := 0 } mu ∧ UX B c c w w' := by
  obtain ⟨k0, k2, k3, k4, kf⟩ := h.slc
  have f2 := kf 2
  have P1 := h.slput 2 (.bool false) false S.at_ S.gen rfl
  have hlt : a.kp < w.heap.size := World.block_lt_of_cell? w _ k0
  have hfl : Hid (∀ i : Nat, i = 0 ∨ i = 1 → S.x.seen (spn i) = none) := hide fun i hi => by rcases hi with rfl | rfl <;> assumption
  obtain ⟨kp, hkp⟩ : ∃ kp, kp = a.kp := ⟨_, rfl⟩
  rw [← hkp] at k0 k2 k3 k4 f2 P1 hlt ⊢
  clear kf h0 h1
  replace h := hide h; replace P1 := hide P1; replace hkp := hide hkp
  go_enter Tryz.func70, Tryz.ntmps70
  go_wp2_with fail
  obtain ⟨W1, hW1⟩ : ∃ W1, W1 = w.setCell ⟨kp, 2, none⟩ (.bool false) := ⟨_, rfl⟩
  have hP : Hid (UN B c W1 a { S with bd := S.bd + 0, sure := false } mu ∧ UX B c c w W1) := hide (by rw [hW1]; exact P1.out)
  rw [← hW1]
  clear k0 k2 k3 k4 f2 hW1
  go_loopw [5, 6, 7, 19] (fun b t m v wr => b = .slice none 0 0 ∧ t = .int .i64 (-1) ∧ m = .int .u64 0 ∧ ∃ k : Nat, k ≤ 2 ∧ v = .int .i64 k ∧ Hid (UN B c wr a { S with bd := S.bd + k, sure := false } mu ∧ UX B c c w wr)) (fun _ _ _ v _ => 2 - (intOf v).toNat)
  case atStart => exact ⟨rfl, rfl, rfl, 0, by omega, rfl, hP⟩
  case round =>
    obtain ⟨rfl, rfl, rfl, k, hk, rfl, hR⟩ := hrel
    clear hP
    obtain ⟨U, X⟩ := hR.out
    obtain ⟨k0, k2, k3, k4, kf⟩ := U.slc
    have hltr : a.kp < wr.heap.size := World.block_lt_of_cell? wr _ k0
    by_cases hlk : k < 2
    · have hs : Hid (∀ W, Mod (fun _ => False) wr W → W.cell? ⟨kp, 0, none⟩ = some (.pointer (some ⟨a.wb, 0, none⟩))) := hide fun W m => by rw [hkp.out]; exact m.cell k0 (fun h => h)
      have hnm := fun W (m : Mod (fun _ => False) wr W) => name_in kp a.wb k false S.at_ S.gen W (m.heap (show wr.heap[kp]? = _ by rw [hkp.out]; exact U.slo.1) (fun h => h)) (by omega)
      have hno := hfl.out k (by omega)
      have hrd : ∀ W, Mod (fun _ => False) wr W → Calls Tryz.prog 115 #[.pointer (some ⟨a.wb, 0, none⟩), .string (spn k), .int .i64 0, .int .i64 4116] W fun e w' => ∃ A cp, e = .returned (.tuple #[.slice A 0 cp, .int .i64 8]) ∧ UN B c w' a { S with bd := S.bd + k + 1, sure := false } mu ∧ UX B c c W w' := fun W m =>
        ((U.keep m).1.read (spn k) 0 4116 (by simp; omega) (spn_size k).1 (spn_size k).2 (by omega) (by omega)).mono fun e w' ⟨v, er, e1, e2, e3, _, e5, e6⟩ => by
          have hfi : S.x.file (spn k) = [] := by simp [Wx.file, hno]
          simp only [hno, Option.isSome_none] at e2
          have e3 : Row w' 5 1 (ic .u8) v [] := by simpa [hfi] using e3
          obtain ⟨A, cp, rfl, -, -⟩ := e3.slice
          exact ⟨A, cp, by rw [e1, e2]; rfl, e5, e6⟩
      clear k0 k2 k3 k4 kf
      replace hnm := hide hnm; replace hrd := hide hrd; replace U := hide U; replace X := hide X; clear hR
      go_wp2_with fail
      go_region_held3 (fun w' => w'.cell? ⟨kp, 0, none⟩ = some (.pointer (some ⟨a.wb, 0, none⟩)))
        (first | exact hs.out _ ((Mod.refl _ wr).drew) | exact hs.out _ m3.out | exact hs4.out)
        (first
        | (go_at_call 116; (with_reducible refine (hnm.out _ ((Mod.refl _ wr).drew)).mono ?_); rintro e w3 ⟨rfl, m3⟩
           have m3 := (Mod.drew (Mod.refl (fun _ => False) wr)).trans m3 (fun _ _ h => h)
           replace m3 := hide m3)
        | (go_at_call 115; (with_reducible refine (hrd.out _ m3.out).mono ?_); rintro e w4 ⟨A4, cp4, rfl, U4, X4⟩
           have hs4 := U4.slc.1
           rw [← hkp.out] at hs4
           replace hs4 := hide hs4; replace U4 := hide U4; replace X4 := hide X4))
      have hde := fun W => decode_short A4 0 cp4 W (by omega)
      replace hde := hide hde
      go_wp2_with (go_at_call 117; (with_reducible refine (hde.out _).mono ?_); rintro e w5 ⟨rfl, rfl⟩)
      go_roundw
      case rel => exact ⟨rfl, rfl, rfl, k + 1, by omega, by go_num, hide ⟨U4.out, X.out.trans ((U.out.keep m3.out).2.trans X4.out)⟩⟩
      case measure => simp [intOf]; omega
    · obtain rfl : k = 2 := by omega
      have f2 := kf 2
      have f3 := kf 3
      have f4 := kf 4
      have P1 := U.slput 3 (.int .i64 (-1)) false (-1) S.gen rfl
      have P2 := P1.1.slput 4 (.int .u64 0) false (-1) 0 rfl
      have P3 := P2.1.slput 2 (.bool true) true (-1) 0 rfl
      rw [← hkp.out] at k0 k2 k3 k4 f2 f3 f4 P1 P2 P3 hltr
      clear kf hR
      replace P1 := hide P1; replace P2 := hide P2; replace P3 := hide P3; replace U := hide U; replace X := hide X
      go_wp2_with fail
      go_ret3
      exact ⟨rfl, P3.out.1, X.out.trans (P1.out.2.trans (P2.out.2.trans P3.out.2))⟩
end Go.Proofs.YtjkpelbhhapebaaGreatDoor
namespace Go.Proofs.YtjkpelbhhapebaaGreatDoor
open Go.RowKit
open W (Nxt)
set_option maxRecDepth 100000
section
variable {B : Nat} {c c' : Nat → Nat} {w w' : World} {a : UA} {S : US} {mu : Int}
theorem UN.add (h : UN B c w a S mu) (n x : Int) (h0 : 0 ≤ n) (h8 : n < 8) (hx : A.U16 x) :
    Calls Tryz.prog 69 #[.pointer (some ⟨a.qb, 0, none⟩), .int .i64 n, .int .u16 x] w fun e w' => ∃ c', e = .returned (.tuple #[]) ∧ UN B c' w' a { S with L := A.put S.L n.toNat (A.addL (S.L n.toNat) x) } mu ∧ UX B c c' w w' := by
  obtain ⟨F, hQ, hF⟩ := h.qu
  exact (A.add_some a.qb n x S.L F w h0 h8 hx hQ).mono fun e w' ⟨e1, e2, e3⟩ => by
    obtain ⟨c', q1, q2⟩ := h.queue hF _ e2 e3
    exact ⟨c', e1, q1, q2⟩
end
/-- The first k nexuses are to be told that the power came on. -/
def powK (L : Nat → List Int) (k : Nat) : Nat → List Int := fun i => if i < k then [10496] else L i
theorem powK_put (L : Nat → List Int) (k : Nat) : A.put (powK L k) k (A.addL (powK L k k) 10496) = powK L (k + 1) := by
  funext i
  simp only [A.put, powK, A.addL]
  by_cases h : i = k
  · simp [h]
  · by_cases h2 : i < k
    · simp [h, h2, Nat.lt_succ_of_lt h2]
    · have : ¬ i < k + 1 := by omega
      simp [h, h2, this]
set_option maxHeartbeats 4000000 in
theorem load_none (B : Nat) (c : Nat → Nat) (a : UA) (S : US) (mu : Int) (w : World) (h : UN B c w a S mu) (hM : S.bd < 90000) (h0 : S.x.seen (spn 0) = none) (h1 : S.x.seen (spn 1) = none) :
    Calls Tryz.prog 43 #[.pointer (some ⟨a.u, 0, none⟩)] w fun e w' => ∃ c', e = .returned (.int .i64 0) ∧ UN B c' w' a { S with L := powK S.L 8, bd := S.bd + 2, sure := true, at_ := -1, gen := 0 } mu ∧ UX B c c' w w' := by
  have hP : Hid (∃ c', UN B c' w a { S with L := powK S.L 0 } mu ∧ UX B c c' w w) := hide ⟨c, by
    have e : powK S.L 0 = S.L := by funext i; simp [powK]
    rw [e]
    exact ⟨h, UX.refl h⟩⟩
  obtain ⟨u, hu⟩ : ∃ u, u = a.u := ⟨_, rfl⟩
  rw [← hu]
  replace h := hide h; replace hu := hide hu; replace h0 := hide h0; replace h1 := hide h1
  go_enter Tryz.func43, Tryz.ntmps43
  go_wp2_with fail
  go_loopw [8] (fun v wr => ∃ k : Nat, k ≤ 8 ∧ v = .int .i64 k ∧ Hid (∃ c', UN B c' wr a { S with L := powK S.L k } mu ∧ UX B c c' w wr)) (fun v _ => 8 - (intOf v).toNat)
  case atStart => exact ⟨0, by omega, rfl, hP⟩
  case round =>
    obtain ⟨k, hk, rfl, hR⟩ := hrel
    clear hP
    obtain ⟨c1, U, X⟩ := hR.out
    obtain ⟨-, k6, -, -, k9, -⟩ := U.cells
    rw [← hu.out] at k6 k9
    by_cases hlk : k < 8
    · have had := U.add k 10496 (by omega) (by omega) (by constructor <;> omega)
      replace had := hide had; replace U := hide U; replace X := hide X; clear hR k6
      go_wp2_with (go_at_call 69; (with_reducible refine had.out.mono ?_); rintro e w2 ⟨c2, rfl, U2, X2⟩
                   simp only [Int.toNat_natCast] at U2
                   rw [powK_put] at U2
                   replace U2 := hide U2; replace X2 := hide X2)
      go_roundw
      case rel => exact ⟨k + 1, by omega, by go_num, hide ⟨c2, U2.out, X.out.trans X2.out⟩⟩
      case measure => simp [intOf]; omega
    · obtain rfl : k = 8 := by omega
      have hsl := slload_none B c1 a _ mu wr U hM h0.out h1.out
      replace hsl := hide hsl; replace U := hide U; replace X := hide X; clear hR
      go_wp2_with (go_at_call 70; (with_reducible refine hsl.out.mono ?_); rintro e w2 ⟨rfl, U2, X2⟩
                   replace U2 := hide U2; replace X2 := hide X2)
      go_ret
      exact ⟨c1, rfl, U2.out, X.out.trans X2.out⟩
end Go.Proofs.YtjkpelbhhapebaaGreatDoor
