/-
  pi.Unpack, walked: the blocks that bytes are, with their tuples. Condition: whole blocks.
-/
import Derived.Test.YtjkpelbhhapebaaGreatDoorUnpack
import Derived.Laws.BitsAllLaws
import Derived.Deep.RegionHeld3
namespace Go.Proofs.YtjkpelbhhapebaaGreatDoor
open Go.RowKit
set_option maxRecDepth 100000
/-- The blocks of bytes, with their tuples. -/
def tupB (p : List Int) : Bl := ⟨p.take 16, gi p 16 * 256 + gi p 17, gi p 18 * 256 + gi p 19, gi p 20 * 16777216 + gi p 21 * 65536 + gi p 22 * 256 + gi p 23⟩
def unT (p : List Int) (n : Nat) : List Bl := (List.range n).map fun i => tupB (p.drop (i * 24))
theorem unT_len (p : List Int) (n : Nat) : (unT p n).length = n := by simp [unT]
theorem unT_snoc (p : List Int) (n : Nat) : unT p n ++ [tupB (p.drop (n * 24))] = unT p (n + 1) := by simp [unT, List.range_succ]
theorem or_add (x y : Nat) (k : Nat) (hy : y < 2 ^ k) : x * 2 ^ k ||| y = x * 2 ^ k + y := by
  have h := Nat.shiftLeft_add_eq_or_of_lt hy x
  rw [Nat.shiftLeft_eq] at h
  exact h.symm
theorem or16 (x y : Int) (hx : 0 ≤ x ∧ x ≤ 255) (hy : 0 ≤ y ∧ y ≤ 255) : bits BinOp.or IntKind.u16 (IntKind.u16.wrap (IntKind.u16.wrap x * 256)) (IntKind.u16.wrap y) = x * 256 + y := by
  obtain ⟨n, rfl⟩ := Int.eq_ofNat_of_zero_le hx.1
  obtain ⟨m, rfl⟩ := Int.eq_ofNat_of_zero_le hy.1
  rw [IntKind.wrap_u16, IntKind.wrap_u16, IntKind.wrap_u16, Int.emod_eq_of_lt (a := (n : Int)) (by omega) (by omega), Int.emod_eq_of_lt (a := (m : Int)) (by omega) (by omega), Int.emod_eq_of_lt (a := (n : Int) * 256) (by omega) (by omega), u16_or _ _ (by omega) (by omega) (by omega) (by omega)]
  have e1 : ((n : Int) * 256).toNat = n * 2 ^ 8 := by omega
  have e2 : ((m : Int)).toNat = m := by omega
  rw [e1, e2, or_add n m 8 (by omega)]
  omega
theorem or32 (x y z u : Int) (hx : 0 ≤ x ∧ x ≤ 255) (hy : 0 ≤ y ∧ y ≤ 255) (hz : 0 ≤ z ∧ z ≤ 255) (hu : 0 ≤ u ∧ u ≤ 255) : bits BinOp.or IntKind.u32 (bits BinOp.or IntKind.u32 (bits BinOp.or IntKind.u32 (IntKind.u32.wrap (IntKind.u32.wrap x * 16777216)) (IntKind.u32.wrap (IntKind.u32.wrap y * 65536))) (IntKind.u32.wrap (IntKind.u32.wrap z * 256))) (IntKind.u32.wrap u) = x * 16777216 + y * 65536 + z * 256 + u := by
  obtain ⟨n, rfl⟩ := Int.eq_ofNat_of_zero_le hx.1
  obtain ⟨m, rfl⟩ := Int.eq_ofNat_of_zero_le hy.1
  obtain ⟨k, rfl⟩ := Int.eq_ofNat_of_zero_le hz.1
  obtain ⟨j, rfl⟩ := Int.eq_ofNat_of_zero_le hu.1
  have w : ∀ a : Int, 0 ≤ a → a < 4294967296 → IntKind.u32.wrap a = a := fun a h1 h2 => by rw [IntKind.wrap_u32', Int.emod_eq_of_lt h1 h2]
  rw [w (n : Int) (by omega) (by omega), w (m : Int) (by omega) (by omega), w (k : Int) (by omega) (by omega), w (j : Int) (by omega) (by omega), w ((n : Int) * 16777216) (by omega) (by omega), w ((m : Int) * 65536) (by omega) (by omega), w ((k : Int) * 256) (by omega) (by omega)]
  rw [u32_or ((n : Int) * 16777216) _ (by omega) (by omega) (by omega) (by omega), show ((n : Int) * 16777216).toNat = n * 2 ^ 24 by omega, show ((m : Int) * 65536).toNat = m * 65536 by omega, or_add n (m * 65536) 24 (by omega)]
  rw [u32_or _ ((k : Int) * 256) (by omega) (by omega) (by omega) (by omega), show (((n * 2 ^ 24 + m * 65536 : Nat) : Int)).toNat = (n * 256 + m) * 2 ^ 16 by omega, show ((k : Int) * 256).toNat = k * 256 by omega, or_add (n * 256 + m) (k * 256) 16 (by omega)]
  rw [u32_or _ (j : Int) (by omega) (by omega) (by omega) (by omega), show ((((n * 256 + m) * 2 ^ 16 + k * 256 : Nat) : Int)).toNat = (n * 65536 + m * 256 + k) * 2 ^ 8 by omega, show ((j : Int)).toNat = j by omega, or_add (n * 65536 + m * 256 + k) j 8 (by omega)]
  omega
set_option maxHeartbeats 4000000 in
theorem unpack_yes (A : Option Addr) (n cnt c : Nat) (p : List Int) (w : World) (hr : Rd w 1 (ic .u8) A n p) (hn : n = cnt * 24) (hc : cnt ≤ 4096) (hnc : n ≤ c) (hcm : c ≤ maxLen) (hpb : Bytes p) :
    Calls Tryz.prog 134 #[.slice A n c, .bool true] w fun e w' => ∃ v, e = .returned (.tuple #[v, .bool true]) ∧ Row w' 259 19 encB v (unT p cnt) ∧ Mod (fun _ => False) w w' ∧ ∀ k, v.ownBlock = some k → w.heap.size ≤ k := by
  have hpl := hr.1
  have hmod : (n : Int).tmod 24 = 0 := by
    rw [hn]
    push_cast
    exact Int.mul_tmod_left _ _
  have hP : Hid (Row w 259 19 encB (.slice none 0 0) (unT p 0) ∧ Mod (fun _ => False) w w ∧ (∀ j, (Value.slice none 0 0).ownBlock = some j → w.heap.size ≤ j) ∧ Rd w 1 (ic .u8) A n (p.drop (0 * 24)) ∧ c ≤ maxLen) := hide ⟨Row.nil _ _ _ _, Mod.refl _ _, by simp [Value.ownBlock], by simpa using hr, hcm⟩
  have hsz := size_yes w
  replace hr := hide hr; replace hcm := hide hcm; replace hpl := hide hpl; replace hsz := hide hsz; replace hn := hide hn; replace hpb := hide hpb
  go_enter Tryz.func134, Tryz.ntmps134
  go_wp2_with (go_at_call 144; (with_reducible refine hsz.out.mono ?_); rintro e w1 ⟨rfl, rfl⟩)
  go_loopw [0, 7] (fun u v wr => ∃ (k n' c' : Nat) (A' : Option Addr), k ≤ cnt ∧ n' + k * 24 = n ∧ n' ≤ c' ∧ u = .slice A' n' c' ∧ (∃ A m c, v = .slice A m c) ∧ Hid (Row wr 259 19 encB v (unT p k) ∧ Mod (fun _ => False) w wr ∧ (∀ j, v.ownBlock = some j → w.heap.size ≤ j) ∧ Rd w 1 (ic .u8) A' n' (p.drop (k * 24)) ∧ c' ≤ maxLen)) (fun u _ _ => slenN u)
  case atStart => exact ⟨0, n, c, A, by omega, by omega, hnc, rfl, ⟨_, _, _, rfl⟩, hP⟩
  case round =>
    obtain ⟨k, n', c', A', hk, hn', hnc', rfl, ⟨A1, m1, c1, rfl⟩, hR⟩ := hrel
    clear hP
    by_cases hlk : k < cnt
    · have h24 : 24 ≤ n' := by have := hn.out; omega
      have h16 : 16 ≤ n' := by omega
      obtain ⟨ad, rfl, -⟩ := hR.out.2.2.2.1.int 0 (by omega)
      have d1 : decide (0 < (n' : Int)) = true := by simp; omega
      have hcap : 24 ≤ c' := by omega
      have hcap16 : 16 ≤ c' := by omega
      obtain ⟨q, hq⟩ : ∃ q, q = p.drop (k * 24) := ⟨_, rfl⟩
      have hql : q.length = n' := by rw [hq]; have := hR.out.2.2.2.1.1; exact this
      have hqb : Bytes q := by rw [hq]; exact hpb.out.drop _
      obtain ⟨pb, hpb'⟩ : ∃ pb, pb = plainB q := ⟨_, rfl⟩
      replace hpb' := hide hpb'; replace hq := hide hq; replace hql := hide hql; replace hqb := hide hqb
      go_wp2_with (first
        | (refine list_new rfl rfl ?_
           intro w2 g hg h2 m2 hz
           have hrd2 := (hR.out.2.2.2.1.mod hR.out.2.1 (fun _ _ h => h)).mod m2 (fun _ _ h => h)
           rw [← hq.out] at hrd2
           obtain ⟨w3, hcp, h3, m3⟩ := copy16 (z := List.replicate 16 0) (tl := [.int .u16 0, .int .u16 0, .int .u32 0]) (ad := ad) (m := n') (c := c') h2 hrd2 h16 3
           have h3' : w3.heap[g]? = some (.cells (ba pb) 259 (0, 0)) := by rw [hpb'.out]; exact h3
           have m13 : Mod (fun _ => False) wr w3 := m2.trans m3 (fun i hi e => by rw [e, hg] at hi; omega)
           have hrd3 : Rd w3 1 (ic .u8) (some ad) n' q := by
             have := (hR.out.2.2.2.1.mod hR.out.2.1 (fun _ _ h => h)).mod m13 (fun _ _ h => h)
             rwa [← hq.out] at this
           clear h3
           replace m2 := hide m2; replace h2 := hide h2; replace hg := hide hg; replace hz := hide hz; replace hrd2 := hide hrd2; replace h3' := hide h3'; replace m3 := hide m3; replace m13 := hide m13; replace hrd3 := hide hrd3))
      have f16 : w3.frozen? ⟨g, 16, none⟩ = false := frozen_of_row _ _ _ _ _ h3'.out
      have f17 : w3.frozen? ⟨g, 17, none⟩ = false := frozen_of_row _ _ _ _ _ h3'.out
      have f18 : w3.frozen? ⟨g, 18, none⟩ = false := frozen_of_row _ _ _ _ _ h3'.out
      obtain ⟨q16, q17, q18⟩ := ba_tup h3'.out
      have hce : ∀ j, 16 + j < n' → w3.cell? ⟨ad.block, ad.off + 16 + j, none⟩ = some (.int .u8 (gi q (16 + j))) := fun j hj => by
        obtain ⟨a2, e2, hc2⟩ := hrd3.out.int (16 + j) hj
        obtain rfl := Option.some.inj e2
        rw [gi_eq q (16 + j) (by rw [hql.out]; exact hj)] at *
        have e : ad.add (16 + j) = ⟨ad.block, ad.off + 16 + j, none⟩ := by simp [Addr.add, Nat.add_assoc]
        rwa [e] at hc2
      have hqg : ∀ j, 16 + j < n' → 0 ≤ gi q (16 + j) ∧ gi q (16 + j) ≤ 255 := fun j hj => hqb.out.gi _ (by rw [hql.out]; exact hj)
      have h8 : 8 ≤ n' - 16 := by omega
      have c0 := hce 0 (by omega); have c1 := hce 1 (by omega); have c2 := hce 2 (by omega); have c3 := hce 3 (by omega)
      have c4 := hce 4 (by omega); have c5 := hce 5 (by omega); have c6 := hce 6 (by omega); have c7 := hce 7 (by omega)
      obtain ⟨l0, k0⟩ := hqg 0 (by omega); obtain ⟨l1, k1⟩ := hqg 1 (by omega); obtain ⟨l2, k2⟩ := hqg 2 (by omega); obtain ⟨l3, k3⟩ := hqg 3 (by omega)
      obtain ⟨l4, k4⟩ := hqg 4 (by omega); obtain ⟨l5, k5⟩ := hqg 5 (by omega); obtain ⟨l6, k6⟩ := hqg 6 (by omega); obtain ⟨l7, k7⟩ := hqg 7 (by omega)
      simp only [Nat.add_zero, Nat.reduceAdd] at c0 c1 c2 c3 c4 c5 c6 c7 l0 k0 l1 k1 l2 k2 l3 k3 l4 k4 l5 k5 l6 k6 l7 k7
      have hxq : Hid ((⟨(plainB q).d, gi q 16 * 256 + gi q 17, gi q 18 * 256 + gi q 19, gi q 20 * 16777216 + gi q 21 * 65536 + gi q 22 * 256 + gi q 23⟩ : Bl) = tupB q) := hide rfl
      generalize gi q 16 = x0 at *
      generalize gi q 17 = x1 at *
      generalize gi q 18 = x2 at *
      generalize gi q 19 = x3 at *
      generalize gi q 20 = x4 at *
      generalize gi q 21 = x5 at *
      generalize gi q 22 = x6 at *
      generalize gi q 23 = x7 at *
      generalize hob : ad.off + 16 = o at *
      generalize hbb : ad.block = b at *
      replace hob := hide hob; replace hbb := hide hbb; replace hce := hide hce; replace hqg := hide hqg
      generalize hnm : n' - 16 = m at *
      generalize hcm' : c' - 16 = mc at *
      have i0 : (0 : Int) < m := by omega
      have i0' : 0 < m := by omega
      have i1 : (1 : Int) < m := by omega
      have i2 : (2 : Int) < m := by omega
      have i3 : (3 : Int) < m := by omega
      have i4 : (4 : Int) < m := by omega
      have i5 : (5 : Int) < m := by omega
      have i6 : (6 : Int) < m := by omega
      have i7 : (7 : Int) < m := by omega
      replace hnm := hide hnm; replace hcm' := hide hcm'
      have hS0 : Hid (w3.cell? ⟨b, o, none⟩ = some (.int .u8 x0) ∧ w3.cell? ⟨b, o + 1, none⟩ = some (.int .u8 x1) ∧ w3.cell? ⟨b, o + 2, none⟩ = some (.int .u8 x2) ∧ w3.cell? ⟨b, o + 3, none⟩ = some (.int .u8 x3) ∧ w3.cell? ⟨b, o + 4, none⟩ = some (.int .u8 x4) ∧ w3.cell? ⟨b, o + 5, none⟩ = some (.int .u8 x5) ∧ w3.cell? ⟨b, o + 6, none⟩ = some (.int .u8 x6) ∧ w3.cell? ⟨b, o + 7, none⟩ = some (.int .u8 x7)) := hide ⟨c0, c1, c2, c3, c4, c5, c6, c7⟩
      have hbg : b ≠ g := by
        have h1 := World.block_lt_of_cell? wr _ (by
          obtain ⟨a2, e2, hc2⟩ := (hR.out.2.2.2.1.mod hR.out.2.1 (fun _ _ h => h)).int 0 (by omega)
          obtain rfl := Option.some.inj e2
          exact hc2)
        rw [show (ad.add 0) = ad from by simp [Addr.add], hbb.out] at h1
        have := hg.out
        omega
      have hS2 : Hid (∀ v1 v2 v3, (fun w' : World => w'.cell? ⟨b, o, none⟩ = some (.int .u8 x0) ∧ w'.cell? ⟨b, o + 1, none⟩ = some (.int .u8 x1) ∧ w'.cell? ⟨b, o + 2, none⟩ = some (.int .u8 x2) ∧ w'.cell? ⟨b, o + 3, none⟩ = some (.int .u8 x3) ∧ w'.cell? ⟨b, o + 4, none⟩ = some (.int .u8 x4) ∧ w'.cell? ⟨b, o + 5, none⟩ = some (.int .u8 x5) ∧ w'.cell? ⟨b, o + 6, none⟩ = some (.int .u8 x6) ∧ w'.cell? ⟨b, o + 7, none⟩ = some (.int .u8 x7)) (((w3.setCell ⟨g, 16, none⟩ v1).setCell ⟨g, 17, none⟩ v2).setCell ⟨g, 18, none⟩ v3)) := hide fun v1 v2 v3 => by
        have hm : Mod (fun k => k = g) w3 (((w3.setCell ⟨g, 16, none⟩ v1).setCell ⟨g, 17, none⟩ v2).setCell ⟨g, 18, none⟩ v3) := (((Mod.refl (fun j => j = g) w3).setCell (p := ⟨g, _, none⟩) (.inl rfl) _).setCell (p := ⟨g, _, none⟩) (.inl rfl) _).setCell (p := ⟨g, _, none⟩) (.inl rfl) _
        exact ⟨hm.cell c0 hbg, hm.cell c1 hbg, hm.cell c2 hbg, hm.cell c3 hbg, hm.cell c4 hbg, hm.cell c5 hbg, hm.cell c6 hbg, hm.cell c7 hbg⟩
      replace hbg := hide hbg
      clear c0 c1 c2 c3 c4 c5 c6 c7
      go_region_held3 (fun w' => w'.cell? ⟨b, o, none⟩ = some (.int .u8 x0) ∧ w'.cell? ⟨b, o + 1, none⟩ = some (.int .u8 x1) ∧ w'.cell? ⟨b, o + 2, none⟩ = some (.int .u8 x2) ∧ w'.cell? ⟨b, o + 3, none⟩ = some (.int .u8 x3) ∧ w'.cell? ⟨b, o + 4, none⟩ = some (.int .u8 x4) ∧ w'.cell? ⟨b, o + 5, none⟩ = some (.int .u8 x5) ∧ w'.cell? ⟨b, o + 6, none⟩ = some (.int .u8 x6) ∧ w'.cell? ⟨b, o + 7, none⟩ = some (.int .u8 x7))
        (first | exact hS0.out | exact hS2.out _ _ _)
        (fail)
      rw [or16 x0 x1 ⟨l0, k0⟩ ⟨l1, k1⟩, or16 x2 x3 ⟨l2, k2⟩ ⟨l3, k3⟩, or32 x4 x5 x6 x7 ⟨l4, k4⟩ ⟨l5, k5⟩ ⟨l6, k6⟩ ⟨l7, k7⟩]
      obtain ⟨h4, m4⟩ := set_tuple (d := pb.d) (x := Value.int .u16 pb.g) (y := Value.int .u16 pb.a) (z := Value.int .u32 pb.r) (show w3.heap[g]? = some (.cells (dcs pb.d ++ [Value.int .u16 pb.g, Value.int .u16 pb.a, Value.int .u32 pb.r]).toArray 259 (0, 0)) from h3'.out) (x0 * 256 + x1) (x2 * 256 + x3) (x4 * 16777216 + x5 * 65536 + x6 * 256 + x7)
      have hpq : (⟨pb.d, x0 * 256 + x1, x2 * 256 + x3, x4 * 16777216 + x5 * 65536 + x6 * 256 + x7⟩ : Bl) = tupB q := by
        rw [hpb'.out]
        exact hxq.out
      rw [hpq] at h4
      generalize hW4 : ((w3.setCell ⟨g, 16, none⟩ (.int .u16 (x0 * 256 + x1))).setCell ⟨g, 17, none⟩ (.int .u16 (x2 * 256 + x3))).setCell ⟨g, 18, none⟩ (.int .u32 (x4 * 16777216 + x5 * 65536 + x6 * 256 + x7)) = W4 at *
      have m14 : Mod (fun _ => False) wr W4.drew := (m13.out.trans m4 (fun i hi e => by have := hg.out; rw [e] at hi; omega)).drew
      have h4d : W4.drew.heap[g]? = some (.cells (ba (tupB q)) 259 (0, 0)) := h4
      have r4a : Row (W4.drew.alloc (.cells (ba (tupB q)) 259)) 259 19 encB (.slice A1 m1 c1) (unT p k) := (hR.out.1.mod m14 (fun _ _ h => h)).alloc _
      have hbx : Rd (W4.drew.alloc (.cells (ba (tupB q)) 259)) 19 encB (some ⟨W4.drew.heap.size, 0, none⟩) 1 [tupB q] := Rd.box W4.drew encB (tupB q) 259
      generalize W4.drew = W5 at *
      have hsn := unT_snoc p k
      rw [← hq.out] at hsn
      clear hpq h4 m4 hW4
      generalize tupB q = tb at *
      replace h4d := hide h4d; replace m14 := hide m14; replace r4a := hide r4a; replace hbx := hide hbx; replace hsn := hide hsn
      have hnc2 : mc + 16 = c' := by have := hcm'.out; omega
      have hn2 : m + 16 = n' := by have := hnm.out; omega
      replace hnc2 := hide hnc2; replace hn2 := hide hn2
      go_wp2_with (first
        | (refine list_load 259 (.tmp 8) rfl rfl _ Tryz.underlying259 rfl ⟨g, 0, none⟩ (encB tb) (size259' _) rfl (ba_at h4d.out) ?_)
        | (refine list_build (.tmp 75) rfl rfl tb rfl ?_)
        | (at_builtin; refine list_app (.tmp 74) (.tmp 76) 217 259 _ 19 24 encB rfl rfl encB_len encB_one Tryz.underlying217 elemB (.slice A1 m1 c1) (unT p k) (some ⟨W5.heap.size, 0, none⟩) 1 1 [tb] ?_ ?_ r4a.out hbx.out ?_ ?_ ?_
           (rfl)
           (rfl)
           (rw [unT_len]; simp [maxLen]; omega)
           (rw [unT_len]; omega)
           intro v4 w4 r4 g4 a4
           rw [hsn.out] at r4
           obtain ⟨A4, n4, c4, rfl⟩ := r4.form
           replace r4 := hide r4; replace g4 := hide g4; replace a4 := hide a4))
      go_roundw
      case rel =>
        have M4 : Mod (fun _ => False) w w4 := ((hR.out.2.1.trans m14.out (fun _ _ h => h)).alloc _).grown g4.out (fun j hj => .inr (hR.out.2.2.1 j hj))
        refine ⟨k + 1, n' - 24, c' - 24, _, by omega, by omega, by omega, rfl, ⟨_, _, _, rfl⟩, hide ⟨r4.out, M4, fun j hj => ?_, ?_, ?_⟩⟩
        · rcases a4.out with e | e <;> rw [e] at hj
          · exact hR.out.2.2.1 j hj
          · have h1 := (hR.out.2.1.trans m14.out (fun _ _ h => h)).size
            simp at hj
            omega
        · have hd := hR.out.2.2.2.1.drop 24 h24
          rw [List.drop_drop, show k * 24 + 24 = (k + 1) * 24 from by omega] at hd
          split
          · rename_i hc16
            have h0 : n' - 24 = 0 := by omega
            exact ⟨by rw [← hd.1], fun i hi => by omega⟩
          · exact hd
        · have := hR.out.2.2.2.2
          omega
      case measure => simp [slenN]; omega
    · obtain rfl : k = cnt := by omega
      obtain rfl : n' = 0 := by have := hn.out; omega
      go_wp2_with fail
      go_ret2
      exact ⟨_, rfl, hR.out.1, hR.out.2.1, hR.out.2.2.1⟩
end Go.Proofs.YtjkpelbhhapebaaGreatDoor
