/-
  pi.Unpack, walked: the blocks that bytes are, without tuples. Condition: whole blocks.
-/
import Derived.Test.YtjkpelbhhapebaaGreatDoorPack
namespace Go.Proofs.YtjkpelbhhapebaaGreatDoor
open Go.RowKit
set_option maxRecDepth 100000
/-- The blocks of bytes. -/
def plainB (p : List Int) : Bl := ⟨p.take 16, 0, 0, 0⟩
def unL (p : List Int) (n : Nat) : List Bl := (List.range n).map fun i => plainB (p.drop (i * 16))
theorem unL_len (p : List Int) (n : Nat) : (unL p n).length = n := by simp [unL]
theorem unL_snoc (p : List Int) (n : Nat) : unL p n ++ [plainB (p.drop (n * 16))] = unL p (n + 1) := by simp [unL, List.range_succ]
theorem unL_get (p : List Int) (n i : Nat) (h : i < n) : gi (unL p n) i = plainB (p.drop (i * 16)) := by
  rw [gi_eq _ i (by rw [unL_len]; exact h)]
  simp [unL]
theorem unL_ok (p : List Int) (n : Nat) (hp : Bytes p) (hl : p.length = n * 16) : ∀ b ∈ unL p n, OkBl b := by
  intro b hb
  simp only [unL, List.mem_map, List.mem_range] at hb
  obtain ⟨i, hi, rfl⟩ := hb
  exact ⟨by simp [plainB]; omega, (hp.drop _).take _, by simp [plainB], by simp [plainB], by simp [plainB]⟩
def slenN : Value → Nat
  | .slice _ n _ => n
  | _ => 0
set_option maxHeartbeats 4000000 in
theorem unpack_no (A : Option Addr) (n cnt c : Nat) (p : List Int) (w : World) (hr : Rd w 1 (ic .u8) A n p) (hn : n = cnt * 16) (hc : cnt ≤ 4096) (hnc : n ≤ c) (hcm : c ≤ maxLen) :
    Calls Tryz.prog 134 #[.slice A n c, .bool false] w fun e w' => ∃ v, e = .returned (.tuple #[v, .bool true]) ∧ Row w' 259 19 encB v (unL p cnt) ∧ Mod (fun _ => False) w w' ∧ ∀ k, v.ownBlock = some k → w.heap.size ≤ k := by
  have hpl := hr.1
  have hmod : (n : Int).tmod 16 = 0 := by
    rw [hn]
    push_cast
    exact Int.mul_tmod_left _ _
  have hP : Hid (Row w 259 19 encB (.slice none 0 0) (unL p 0) ∧ Mod (fun _ => False) w w ∧ (∀ j, (Value.slice none 0 0).ownBlock = some j → w.heap.size ≤ j) ∧ Rd w 1 (ic .u8) A n (p.drop (0 * 16)) ∧ c ≤ maxLen) := hide ⟨Row.nil _ _ _ _, Mod.refl _ _, by simp [Value.ownBlock], by simpa using hr, hcm⟩
  have hsz := size_no w
  replace hr := hide hr; replace hcm := hide hcm; replace hpl := hide hpl; replace hsz := hide hsz; replace hn := hide hn
  go_enter Tryz.func134, Tryz.ntmps134
  go_wp2_with (go_at_call 144; (with_reducible refine hsz.out.mono ?_); rintro e w1 ⟨rfl, rfl⟩)
  go_loopw [0, 7] (fun u v wr => ∃ (k n' c' : Nat) (A' : Option Addr), k ≤ cnt ∧ n' + k * 16 = n ∧ n' ≤ c' ∧ u = .slice A' n' c' ∧ (∃ A m c, v = .slice A m c) ∧ Hid (Row wr 259 19 encB v (unL p k) ∧ Mod (fun _ => False) w wr ∧ (∀ j, v.ownBlock = some j → w.heap.size ≤ j) ∧ Rd w 1 (ic .u8) A' n' (p.drop (k * 16)) ∧ c' ≤ maxLen)) (fun u _ _ => slenN u)
  case atStart => exact ⟨0, n, c, A, by omega, by omega, hnc, rfl, ⟨_, _, _, rfl⟩, hP⟩
  case round =>
    obtain ⟨k, n', c', A', hk, hn', hnc', rfl, ⟨A1, m1, c1, rfl⟩, hR⟩ := hrel
    clear hP
    by_cases hlk : k < cnt
    · have h16 : 16 ≤ n' := by have := hn.out; omega
      obtain ⟨ad, rfl, -⟩ := hR.out.2.2.2.1.int 0 (by omega)
      have d1 : decide (0 < (n' : Int)) = true := by simp; omega
      have hcap : 16 ≤ c' := by omega
      obtain ⟨pb, hpb⟩ : ∃ pb, pb = plainB (p.drop (k * 16)) := ⟨_, rfl⟩
      replace hpb := hide hpb
      go_wp2_with (first
        | (refine list_new rfl rfl ?_
           intro w2 g hg h2 m2 hz
           have hrd2 := hR.out.2.2.2.1.mod (hR.out.2.1.trans m2 (fun _ _ h => h)) (fun _ _ h => h)
           obtain ⟨w3, hcp, h3, m3⟩ := copy16 (z := List.replicate 16 0) (tl := [.int .u16 0, .int .u16 0, .int .u32 0]) (ad := ad) (m := n') (c := c') h2 hrd2 h16 3
           have h3' : w3.heap[g]? = some (.cells (ba pb) 259 (0, 0)) := by rw [hpb.out]; exact h3
           have m13 : Mod (fun _ => False) wr w3 := m2.trans m3 (fun i hi e => by rw [e, hg] at hi; omega)
           have r3a : Row (w3.alloc (.cells (ba pb) 259)) 259 19 encB (.slice A1 m1 c1) (unL p k) := (hR.out.1.mod m13 (fun _ _ h => h)).alloc _
           have hbx : Rd (w3.alloc (.cells (ba pb) 259)) 19 encB (some ⟨w3.heap.size, 0, none⟩) 1 [pb] := Rd.box w3 encB pb 259
           clear h3
           replace m2 := hide m2; replace h2 := hide h2; replace hg := hide hg; replace hz := hide hz; replace hrd2 := hide hrd2; replace h3' := hide h3'; replace m3 := hide m3; replace m13 := hide m13; replace r3a := hide r3a; replace hbx := hide hbx)
        | (refine list_load 259 (.tmp 8) rfl rfl _ Tryz.underlying259 rfl ⟨g, 0, none⟩ (encB pb) (size259' _) rfl (ba_at h3'.out) ?_)
        | (refine list_build (.tmp 75) rfl rfl pb rfl ?_)
        | (at_builtin; refine list_app (.tmp 74) (.tmp 76) 217 259 _ 19 24 encB rfl rfl encB_len encB_one Tryz.underlying217 elemB (.slice A1 m1 c1) (unL p k) (some ⟨w3.heap.size, 0, none⟩) 1 1 [pb] ?_ ?_ r3a.out hbx.out ?_ ?_ ?_
           (rfl)
           (rfl)
           (rw [unL_len]; simp [maxLen]; omega)
           (rw [unL_len]; omega)
           intro v4 w4 r4 g4 a4
           rw [hpb.out, unL_snoc] at r4
           obtain ⟨A4, n4, c4, rfl⟩ := r4.form
           replace r4 := hide r4; replace g4 := hide g4; replace a4 := hide a4))
      go_roundw
      case rel =>
        have M4 : Mod (fun _ => False) w w4 := ((hR.out.2.1.trans m13.out (fun _ _ h => h)).alloc _).grown g4.out (fun j hj => .inr (hR.out.2.2.1 j hj))
        refine ⟨k + 1, n' - 16, c' - 16, _, by omega, by omega, by omega, rfl, ⟨_, _, _, rfl⟩, hide ⟨r4.out, M4, fun j hj => ?_, ?_, ?_⟩⟩
        · rcases a4.out with e | e <;> rw [e] at hj
          · exact hR.out.2.2.1 j hj
          · have h1 := (hR.out.2.1.trans m13.out (fun _ _ h => h)).size
            simp at hj
            omega
        · have hd := hR.out.2.2.2.1.drop 16 h16
          rw [List.drop_drop, show k * 16 + 16 = (k + 1) * 16 from by omega] at hd
          split
          · rename_i hc16
            have h0 : n' - 16 = 0 := by omega
            exact ⟨by rw [← hd.1], fun i hi => by omega⟩
          · exact hd
        · have := hR.out.2.2.2.2
          omega
      case measure => simp [slenN]; omega
    · obtain rfl : k = cnt := by omega
      obtain rfl : n' = 0 := by have := hn.out; omega
      go_wp2_with fail
      go_ret2
      exact ⟨_, rfl, hR.out.1, hR.out.2.1, hR.out.2.2.1⟩
end Go.Proofs.YtjkpelbhhapebaaGreatDoor
