/-
  A block's bytes told from zeros; operations that a guard wants. Condition: bytes. sbc.same, walked: WRITE SAME without tuples. Conditions: there is a cache; the range lies in the store. sbc.Do, walked: SYNCHRONIZE CACHE, WRITE SAME without tuples. Conditions: the range lies in the store; for WRITE SAME there is a cache.
-/
import Derived.Test.YtjkpelbhhapebaaGreatDoorUnpack
import Derived.Stop.BytesEq
import Derived.Test.YtjkpelbhhapebaaGreatDoorPUnm
import Derived.Test.YtjkpelbhhapebaaGreatDoorSDoW
namespace Go.Proofs.YtjkpelbhhapebaaGreatDoor
open Go.RowKit
set_option maxRecDepth 100000
abbrev zs16 : Array Value := #[.int .u8 0, .int .u8 0, .int .u8 0, .int .u8 0, .int .u8 0, .int .u8 0, .int .u8 0, .int .u8 0, .int .u8 0, .int .u8 0, .int .u8 0, .int .u8 0, .int .u8 0, .int .u8 0, .int .u8 0, .int .u8 0]
theorem und255 : Tryz.prog.underlying 255 = some (.array 16 5) := by kernel_rfl
theorem und5 : Tryz.prog.underlying 5 = some (.int .u8) := by kernel_rfl
theorem size255 (cs : List Value) (h : cs.length = 16) : (Tryz.prog.info? 255).map (·.size) = some cs.length := by rw [h]; kernel_rfl
theorem size5 (w : World) : (sizeOf 5).run Tryz.prog w = .ok 1 w := by
  obtain ⟨i, hi⟩ : ∃ i, Tryz.prog.info? 5 = some i := Option.isSome_iff_exists.1 (by kernel_rfl)
  have hs : i.size = 1 := by
    have : (Tryz.prog.info? 5).map (·.size) = some 1 := by kernel_rfl
    rw [hi] at this
    exact Option.some.inj this
  rw [run_sizeOf w hi]
  simp [Program.cellsOf, hi, hs]
theorem bytes_u8 : ∀ (d : List Int), Bytes d → ∃ us : List UInt8, d = us.map (fun u => (u.toNat : Int))
  | [], _ => ⟨[], rfl⟩
  | x :: d, h => by
    obtain ⟨us, e⟩ := bytes_u8 d fun y hy => h y (List.mem_cons_of_mem _ hy)
    have hx := h x List.mem_cons_self
    refine ⟨UInt8.ofNat x.toNat :: us, ?_⟩
    rw [List.map_cons, ← e]
    congr 1
    have : (UInt8.ofNat x.toNat).toNat = x.toNat := by simp; omega
    rw [this]
    omega
theorem eq255 (d : List Int) (hd : Bytes d) (hl : d.length = 16) (w : World) : (binOp .eql 255 (.agg (dcs d).toArray) (.agg zs16)).run Tryz.prog w = .ok (.bool (d == List.replicate 16 0)) w := by
  obtain ⟨us, rfl⟩ := bytes_u8 d hd
  have hul : us.length = 16 := by simpa using hl
  have e1 : dcs (us.map (fun u => (u.toNat : Int))) = us.map Extern.Stop.cell := by
    rw [dcs_map hl, List.map_map]
    rfl
  have e2 : zs16 = ((List.replicate 16 (0 : UInt8)).map Extern.Stop.cell).toArray := rfl
  rw [e1, e2, run_eql_bytes w 255 5 16 und255 und5 size5 us (List.replicate 16 0) hul (by simp)]
  congr 2
  rw [Bool.eq_iff_iff]
  simp only [beq_iff_eq]
  constructor
  · rintro rfl
    rfl
  · intro h
    have h2 : us.map (fun u => (u.toNat : Int)) = (List.replicate 16 (0 : UInt8)).map (fun u => (u.toNat : Int)) := h
    refine (List.map_inj_right (fun x y hxy => ?_)).1 h2
    have : x.toNat = y.toNat := by omega
    exact UInt8.toNat_inj.1 this
section
variable {P : Program} {w : World} {ops : Array Oper} {rest : List Oper} {o : Oper} {a : Act} {Q : Exit → Act → World → Prop}
/-- A struct or an array read whole, where a guard wants it. -/
theorem list_load_w (ty : TypeId) (x : Operand) (ho : o.op = .load ty x) (hw : Region.wanted o (yielded ops a.tmps) = true) (d : TypeDesc) (hu : P.underlying ty = some d) (hd : (match d with | .struct _ | .array _ _ => true | _ => false) = true)
    (ad : Addr) (cs : List Value) (hi : (P.info? ty).map (·.size) = some cs.length) (hx : a.eval x = .pointer (some ad)) (hc : ∀ j u, cs[j]? = some u → w.cell? (ad.add j) = some u)
    (h : wpList P ops Q rest (a.put o.dst (.agg cs.toArray)) w) : wpList P ops Q (o :: rest) a w :=
  wpList_step fun K hK => by
    rw [if_pos hw]
    unfold Oper.wp execOp
    simp only [ho, hx, Instr.loadAt, Instr.sureAddr, Sem.run_bind, Sem.run_pure, Result.andThen_ok, run_loadVar_at w ty ad cs d hc hu hd hi]
    exact hK _ _ h
end
section
variable {w : World} {ops : Array Oper} {rest : List Oper} {o : Oper} {a : Act} {Q : Exit → Act → World → Prop}
theorem guard255 : Tryz.prog.eqGuardType Tryz.prog.depth 255 = false := by kernel_rfl
/-- Sixteen bytes by == with zeros, where a guard wants it. -/
theorem list_eq255 (x y : Operand) (t : TypeId) (ho : o.op = .binOp .eql 255 x y t) (hw : Region.wanted o (yielded ops a.tmps) = true) (d : List Int) (hd : Bytes d) (hl : d.length = 16)
    (hx : a.eval x = .agg (dcs d).toArray) (hy : a.eval y = .agg zs16) (h : wpList Tryz.prog ops Q rest (a.put o.dst (.bool (d == List.replicate 16 0))) w) : wpList Tryz.prog ops Q (o :: rest) a w :=
  wpList_step fun K hK => by
    rw [if_pos hw]
    unfold Oper.wp execOp
    simp only [ho, hx, hy, Sem.run_bind, Sem.run_pure, Result.andThen_ok, run_eqGuard_agg _ _ _ _ _ _ _ guard255, eq255 d hd hl]
    exact hK _ _ h
end
end Go.Proofs.YtjkpelbhhapebaaGreatDoor
namespace Go.Proofs.YtjkpelbhhapebaaGreatDoor
open Go.RowKit
open W (Nxt)
set_option maxRecDepth 100000
/-- The blocks that WRITE SAME lays. -/
def samL (prot lba : Int) (d : List Int) (n : Nat) : List Bl := (List.range n).map fun i : Nat => (⟨d, c16 d, 0, refOf prot (lba + i)⟩ : Bl)
theorem samL_len (prot lba : Int) (d : List Int) (n : Nat) : (samL prot lba d n).length = n := by simp [samL]
theorem samL_snoc (prot lba : Int) (d : List Int) (n : Nat) : samL prot lba d n ++ [(⟨d, c16 d, 0, refOf prot (lba + n)⟩ : Bl)] = samL prot lba d (n + 1) := by simp [samL, List.range_succ]
set_option maxHeartbeats 8000000 in
theorem same_in (B M dv p wb pb pc : Nat) (prot : Int) (c : Cm) (x : Wx) (F : Nat → Prop) (s : ByteArray) (pl : List Int) (w : World) (hd : DV w dv p prot) (hs : ST w p wb s true) (hW : WU B w wb M x F) (hp : ¬ F p) (hdF : ¬ F dv) (hM : M < 80000) (hl : c.lba + c.blocks ≤ 32) (h1 : 1 ≤ s.size) (h2 : s.size ≤ 32)
    (hk : 0 ≤ prot ∧ prot ≤ 3) (hc : c.prot = 0) (hr : Rd w 1 (ic .u8) (some ⟨pb, 0, none⟩) 16 pl) (hn1 : 1 ≤ c.blocks) (hnc : 16 ≤ pc) (hcm : pc ≤ maxLen) (hpl : Bytes pl) (um : Bool) (hum : um = (c.unmap && pl == List.replicate 16 0)) :
    Calls Tryz.prog 107 #[.pointer (some ⟨dv, 0, none⟩), .agg (cmA c), .slice (some ⟨pb, 0, none⟩) 16 pc] w fun e w' => ∃ F', e = .returned (okR (.slice none 0 0)) ∧
      WU B w' wb (M + 2 * c.blocks + 1) (if um then unmN x s c.lba c.blocks else laidX x s c.lba (samL prot c.lba pl c.blocks) false) F' ∧ Nxt B F F' w w' := by
  have hbd := hide hW.bound
  have hBs : B ≤ w.heap.size := by
    obtain ⟨d, N, h, -⟩ := hW
    exact h.2.2
  have hN0 := hide (W.Nxt.refl F w hBs (fun k hk => (hbd.out k hk).1))
  have hl16 : pl.length = 16 := hr.1
  have htake : pl.take 16 = pl := List.take_of_length_le (by omega)
  have hul : (unL pl 1).length = 1 := unL_len _ _
  have hl1 : tupd prot c.lba (unL pl 1) 1 = [⟨pl, c16 pl, 0, refOf prot (c.lba + (0 : Nat))⟩] := by
    simp [tupd, unL, plainB, htake, withT, gi]
  have hco := fun W (m : Mod (fun _ => False) w W) => come_no dv p 1 16 pc prot c (some ⟨pb, 0, none⟩) pl W (hd.mod m (fun h => h)) (hr.mod m (fun _ _ h => h)) rfl (by omega) (by omega) hnc hcm hpl hk hc (by omega)
  rw [hl1] at hco
  obtain ⟨b0, hb0⟩ : ∃ b0 : Bl, b0 = ⟨pl, c16 pl, 0, refOf prot (c.lba + (0 : Nat))⟩ := ⟨_, rfl⟩
  rw [← hb0] at hco
  have hbd0 : b0.d = pl := by rw [hb0]
  have hnb : ((c.blocks : Int) == 0) = false := by simp; omega
  replace hco := hide hco; replace hl1 := hide hl1; replace hr := hide hr; replace hpl := hide hpl; replace hul := hide hul; replace hc := hide hc; replace hb0 := hide hb0; replace hbd0 := hide hbd0; replace htake := hide htake; replace hl16 := hide hl16; replace hum := hide hum
  obtain ⟨u0, hu0⟩ : ∃ u0, u0 = c.unmap := ⟨_, rfl⟩
  obtain ⟨z0, hz0⟩ : ∃ z0, z0 = (pl == List.replicate 16 0) := ⟨_, rfl⟩
  have hum2 : Hid (um = (u0 && z0)) := hide (by rw [hum.out, hu0, hz0])
  replace hu0 := hide hu0; replace hz0 := hide hz0
  replace hd := hide hd; replace hs := hide hs; replace hW := hide hW
  cases u0
  rotate_left 1
  cases z0
  all_goals
   go_enter Tryz.func107, Tryz.ntmps107
   go_wp2_with (first
     | (refine list_box 104 (.tmp 1) rfl rfl (cmA c) rfl ?_
        intro w1 g hg hcm' m1 hz
        have hcm' : CM w1 g c := hcm'
        replace hcm' := hide hcm'; replace m1 := hide m1; replace hz := hide hz; replace hg := hide hg)
     | (refine list_al 35 _ new35' rfl rfl ?_
        intro W2 g6 hg6 h356 m6 hz6
        have m2 : Mod (fun _ => False) w W2 := m1.out.trans m6 (fun _ _ h => h)
        have hcm2 : CM W2 g c := hcm'.out.mod m6 (fun h => h)
        have k3 := hcm2.c3
        have hco2 := hco.out W2 m2
        rw [show (((1 : Nat)) : Int) = 1 from rfl] at hco2
        replace hg6 := hide hg6; replace h356 := hide h356; replace m6 := hide m6; replace hz6 := hide hz6; replace m2 := hide m2; replace hcm2 := hide hcm2; replace hco2 := hide hco2)
     | (refine list_whole 104 (.tmp 4) rfl rfl ⟨g, 0, none⟩ (cmA c) rfl (load_whole hcm2.out Tryz.underlying104 rfl size104) ?_)
     | (go_at_call 103; (with_reducible refine hco2.out.mono ?_); rintro e w3 ⟨v, rfl, row3, own3, m3⟩
        obtain ⟨A3, c3, rfl, -, -⟩ := row3.slice
        obtain ⟨G, hG⟩ : ∃ G, A3 = some ⟨G, 0, none⟩ := by
          rcases row3.2 with ⟨-, h0⟩ | ⟨G, cap, cur, h, -⟩
          · simp at h0
          · injection h with h _ _
            exact ⟨G, h⟩
        subst hG
        have m03 : Mod (fun _ => False) w w3 := m2.out.trans m3 (fun _ _ h => h)
        have hcm3 : CM w3 g c := m3.heap hcm2.out (fun h => h)
        have h63 : w3.heap[g6]? = some (.cells zs35 35 (0, 0)) := m3.heap h356.out (fun h => h)
        replace row3 := hide row3; replace own3 := hide own3; replace m3 := hide m3; replace m03 := hide m03; replace hcm3 := hide hcm3; replace h63 := hide h63)
     | (refine list_al 35 _ new35' rfl rfl ?_
        intro w4 g9 hg9 h94 m4 hz4
        replace hg9 := hide hg9; replace h94 := hide h94; replace m4 := hide m4; replace hz4 := hide hz4)
     | (refine list_put 35 (.tmp 9) (.tmp 31) rfl rfl g9 (rcA 0 0 0 0 false (.slice none 0 0)) rfl rfl zs35 h94.out rfl size35 (rc_one _ _ _ _ _ _ _ _) ?_
        intro w5 h5 m5
        have m35 : Mod (fun _ => False) w3 w5 := m4.out.trans m5 (fun i hi e => by have := hg9.out; omega)
        have hcm5 := hcm3.out.mod m35 (fun h => h)
        have q7 : w5.cell? ⟨g, 7, none⟩ = some (.bool c.unmap) := hcm5.at_ 7
        rw [← hu0.out] at q7
        have row5 := row3.out.mod m35 (fun _ _ h => h)
        have hcb : ∀ j u, (encB b0)[j]? = some u → w5.cell? ((⟨G, 0, none⟩ : Addr).add j) = some u := by
          obtain ⟨ad, e, hc'⟩ := (row5.rd encB_len rfl).elemB 0 (by simp)
          obtain rfl := Option.some.inj e
          exact hc'
        have hcd : ∀ j u, (dcs pl)[j]? = some u → w5.cell? ((⟨G, 0, none⟩ : Addr).add j) = some u := fun j u hu => hcb j u (by rw [encB, hbd0.out, List.getElem?_append_left (List.getElem?_eq_some_iff.1 hu).1]; exact hu)
        have m05 : Mod (fun _ => False) w w5 := m03.out.trans m35 (fun _ _ h => h)
        replace row5 := hide row5; replace hcb := hide hcb; replace hcd := hide hcd; replace m05 := hide m05
        replace h5 := hide h5; replace m5 := hide m5; replace m35 := hide m35; replace hcm5 := hide hcm5)
     | (refine list_load_w 255 (.tmp 41) rfl (by rfl) _ und255 rfl ⟨G, 0, none⟩ (dcs pl) (size255 _ (dcs_len _)) rfl hcd.out ?_)
     | (refine list_eq255 (.tmp 42) (.tmp 43) 255 rfl (by rfl) pl hpl.out hl16.out rfl rfl ?_
        rw [← hz0.out]))
  rotate_left 1
  · have hd5 := hd.out.mod m05.out (fun h => h)
    have hs5 := hs.out.mod m05.out (fun h => h)
    have W5 := hW.out.mod m05.out (fun _ _ h => h)
    have hN5 := hN0.out.add hBs m05.out
    have hgF : ¬ F g := fun h => by have := (hbd.out _ h).2; have := hg.out; omega
    have hg6F : ¬ F g6 := fun h => by have := (hbd.out _ h).2; have := hg6.out; have := m1.out.size; omega
    have hg6w : w.heap.size ≤ g6 := by have := m1.out.size; have := hg6.out; omega
    have e1 : IntKind.i64.wrap (c.lba : Int) = (c.lba : Int) := IntWalk.i64_in _ (by omega)
    have e2 : IntKind.i64.wrap (c.blocks : Int) = (c.blocks : Int) := IntWalk.i64_in _ (by omega)
    have hS5 : Hid (w5.cell? ⟨dv, 0, none⟩ = some (.pointer (some ⟨p, 0, none⟩)) ∧ w5.cell? ⟨g, 2, none⟩ = some (.int .u64 c.lba)) := hide ⟨hd5.c0, hcm5.out.c2⟩
    have md : Mod (fun _ => False) w5 w5.drew := (Mod.refl _ w5).drew
    have hun := unmap_in B M p wb x F s c.lba c.blocks w5.drew (hs5.mod md (fun h => h)) (W5.mod md (fun _ _ h => h)) hp (by omega) hl h1 h2
    have h65 : w5.heap[g6]? = some (.cells zs35 35 (0, 0)) := m35.out.heap h63.out (fun h => h)
    have hgd := fun W => good_any none 0 0 W
    have hNd := hN5.add (Nat.le_trans hBs m05.out.size) md
    replace hd5 := hide hd5; replace hs5 := hide hs5; replace W5 := hide W5; replace hN5 := hide hN5; replace hun := hide hun; replace md := hide md; replace h65 := hide h65; replace hgd := hide hgd; replace hNd := hide hNd
    go_region_held3 (fun w' => w'.cell? ⟨dv, 0, none⟩ = some (.pointer (some ⟨p, 0, none⟩)) ∧ w'.cell? ⟨g, 2, none⟩ = some (.int .u64 c.lba))
      (first | exact hS5.out | exact hS6.out)
      (first
      | (go_at_call 143; (with_reducible refine hun.out.mono ?_); rintro e w6 ⟨F', rfl, W6, N6⟩
         have hS6 : Hid (w6.cell? ⟨dv, 0, none⟩ = some (.pointer (some ⟨p, 0, none⟩)) ∧ w6.cell? ⟨g, 2, none⟩ = some (.int .u64 c.lba)) := hide ⟨N6.1.cell hS5.out.1 hdF, N6.1.cell hS5.out.2 hgF⟩
         have h66 : w6.heap[g6]? = some (.cells zs35 35 (0, 0)) := N6.1.heap (show w5.drew.heap[g6]? = _ from h65.out) hg6F
         have hF'6 : ¬ F' g6 := fun h => hg6F (N6.2.2 _ (show g6 < w5.drew.heap.size from (Array.getElem?_eq_some_iff.1 h65.out).1) h)
         replace W6 := hide W6; replace N6 := hide N6; replace h66 := hide h66))
    clear e1 e2
    go_wp2_with (first
      | (go_at_call 101; (with_reducible refine (hgd.out _).mono ?_); rintro e w7 ⟨rfl, m7⟩
         have h67 := m7.heap h66.out (fun h => h)
         replace m7 := hide m7; replace h67 := hide h67)
      | (refine list_put 35 (.tmp 6) (.tmp 67) rfl rfl g6 (rcA 0 0 0 0 false (.slice none 0 0)) rfl rfl zs35 h67.out rfl size35 (rc_one _ _ _ _ _ _ _ _) ?_
         intro w8 h8 m8; replace h8 := hide h8; replace m8 := hide m8))
    have N67 := (hNd.out.trans N6.out).add (Nat.le_trans (Nat.le_trans hBs m05.out.size) N6.out.1.size) m7.out
    obtain rfl : um = true := hum2.out
    exact bodyPost_ret (v := okR (.slice none 0 0)) (results_one rfl rfl (load_whole h8.out Tryz.underlying35 rfl size35)) rfl ⟨rfl, F', (W6.out.mod m7.out (fun _ _ h => h)).mod m8.out (fun k hk e => hF'6 (e ▸ hk)), N67.new hBs m8.out hg6w⟩
  all_goals
    have hd5 := hd.out.mod m05.out (fun h => h)
    have hs5 := hs.out.mod m05.out (fun h => h)
    have W5 := hW.out.mod m05.out (fun _ _ h => h)
    have hN5 := hN0.out.add hBs m05.out
    have hg6F : ¬ F g6 := fun h => by have := (hbd.out _ h).2; have := hg6.out; have := m1.out.size; omega
    have hg6w : w.heap.size ≤ g6 := by have := m1.out.size; have := hg6.out; omega
    have h65 : w5.heap[g6]? = some (.cells zs35 35 (0, 0)) := m35.out.heap h63.out (fun h => h)
    have hP : Hid (Row w5 259 19 encB (.slice none 0 0) (samL prot c.lba pl 0) ∧ Mod (fun _ => False) w5 w5 ∧ ∀ j, (Value.slice none 0 0).ownBlock = some j → w5.heap.size ≤ j) := hide ⟨Row.nil _ _ _ _, Mod.refl _ _, by simp [Value.ownBlock]⟩
    have hGlt : G < w5.heap.size := World.block_lt_of_cell? w5 _ (hcb.out 0 _ (by simp [encB, dcs]; rfl))
    replace hd5 := hide hd5; replace hs5 := hide hs5; replace W5 := hide W5; replace hN5 := hide hN5; replace h65 := hide h65; replace hGlt := hide hGlt
    go_loopw [13, 69] (fun u v wr => ∃ k : Nat, k ≤ c.blocks ∧ v = .int .u64 k ∧ (∃ A m c, u = .slice A m c) ∧ Hid (Row wr 259 19 encB u (samL prot c.lba pl k) ∧ Mod (fun _ => False) w5 wr ∧ ∀ j, u.ownBlock = some j → w5.heap.size ≤ j)) (fun _ v _ => c.blocks - (intOf v).toNat)
    case atStart => exact ⟨0, by omega, rfl, ⟨_, _, _, rfl⟩, hP⟩
    case round =>
      obtain ⟨k, hk, rfl, ⟨A1, n1, c1, rfl⟩, hR⟩ := hrel
      clear hP
      by_cases hlk : k < c.blocks
      · have hcr : ∀ j u, (encB b0)[j]? = some u → wr.cell? ((⟨G, 0, none⟩ : Addr).add j) = some u := fun j u hu => hR.out.2.1.cell (hcb.out j u hu) (fun h => h)
        replace hcr := hide hcr
        obtain ⟨d, hdd⟩ : ∃ d, d = pl := ⟨_, rfl⟩
        have hdr := hd5.out.mod hR.out.2.1 (fun h => h)
        have hcm := hcm5.out.mod hR.out.2.1 (fun h => h)
        replace hdr := hide hdr; replace hcm := hide hcm; replace hdd := hide hdd
        go_wp2_with (first
          | (refine list_load 259 (.tmp 73) rfl rfl _ Tryz.underlying259 rfl ⟨G, 0, none⟩ (encB b0) (size259' _) rfl hcr.out ?_)
          | (refine list_new rfl rfl ?_
             intro w6 g15 hg15 h615 m6' hz15
             replace m6' := hide m6'; replace h615 := hide h615; replace hg15 := hide hg15; replace hz15 := hide hz15)
          | (refine list_put 259 (.tmp 15) (.tmp 74) rfl rfl g15 (ba b0) rfl rfl zs19 h615.out (by rw [ba_size]; rfl) (by rw [ba_size]; exact size259) (ba_one _) ?_
             intro w7 h7 m7
             have m57 : Mod (fun _ => False) wr w7 := m6'.out.trans m7 (fun i hi e => by rw [e, hg15.out] at hi; omega)
             have hd7 := hdr.out.mod m57 (fun h => h)
             have hcm7 := hcm.out.mod m57 (fun h => h)
             have k6 := hcm7.c6
             rw [hc.out] at k6
             replace h7 := hide h7; replace m7 := hide m7; replace m57 := hide m57; replace hd7 := hide hd7; replace hcm7 := hide hcm7))
        have hgg : g ≠ g15 := by have h1 := hcm.out.lt; have := hg15.out; omega
        have hdg : dv ≠ g15 := by have h1 := hdr.out.lt; have := hg15.out; omega
        have h7c : ∀ W : World, W.heap[g15]? = some (.cells (ba b0) 259 (0, 0)) → W.rangeAt g15 0 (dcs pl) := fun W hW => fun j v hv => by
          have := ba_at hW j v (by rw [encB, hbd0.out, List.getElem?_append_left (List.getElem?_eq_some_iff.1 hv).1]; exact hv)
          rwa [show (⟨g15, 0, none⟩ : Addr).add j = ⟨g15, 0 + j, none⟩ from by rw [Addr.add_mid]] at this
        have hS7 : Hid (w7.cell? ⟨dv, 1, none⟩ = some (.int .u8 prot) ∧ w7.cell? ⟨g, 2, none⟩ = some (.int .u64 c.lba) ∧ w7.rangeAt g15 0 (dcs pl)) := hide ⟨hd7.out.c1, hcm7.out.c2, h7c w7 h7.out⟩
        have hu255 : Tryz.prog.underlying 255 = some (.array 16 5) := by kernel_rfl
        have hi255 : (Tryz.prog.info? 255).map (·.size) = some (dcs pl).length := by rw [dcs_len]; kernel_rfl
        have hmk : ∀ W : World, Calls Tryz.prog 139 #[.int .u8 prot, .int .u64 ((c.lba : Int) + k), .agg (dcs pl).toArray, .int .u16 0] W fun e w' => e = .returned (.agg #[.int .u16 (c16 pl), .int .u16 0, .int .u32 (refOf prot (c.lba + k))]) ∧ Mod (fun _ => False) W w' := fun W => make_any prot ((c.lba : Int) + k) 0 pl W hl16.out hpl.out (by omega)
        have e15 : IntKind.u64.wrap ((c.lba : Int) + k) = (c.lba : Int) + k := IntWalk.u64_in _ (by omega)
        replace h7c := hide h7c; replace hmk := hide hmk; replace hgg := hide hgg; replace hdg := hide hdg
        clear k6
        go_region_held3 (fun w' => w'.cell? ⟨dv, 1, none⟩ = some (.int .u8 prot) ∧ w'.cell? ⟨g, 2, none⟩ = some (.int .u64 c.lba) ∧ w'.rangeAt g15 0 (dcs pl))
          (first | exact hS7.out | exact hS8.out | exact hS9.out)
          (first
          | (go_at_call 139; (with_reducible refine (hmk.out _).mono ?_); rintro e w8 ⟨rfl, m8⟩
             have m78 : Mod (fun _ => False) w7 w8 := ((Mod.refl (fun _ => False) w7).drew).trans m8 (fun _ _ h => h)
             have h8 := m78.heap h7.out (fun h => h)
             have d8 := (hd7.out.mod m78 (fun h => h)).c1
             have c8 := (hcm7.out.mod m78 (fun h => h)).c2
             have hS8 : Hid (w8.cell? ⟨dv, 1, none⟩ = some (.int .u8 prot) ∧ w8.cell? ⟨g, 2, none⟩ = some (.int .u64 c.lba) ∧ w8.rangeAt g15 0 (dcs pl)) := hide ⟨d8, c8, h7c.out w8 h8⟩
             obtain ⟨q16, q17, q18⟩ := ba_tup h8
             have f16 : w8.frozen? ⟨g15, 16, none⟩ = false := frozen_of_row _ _ _ _ _ h8
             have f17 : w8.frozen? ⟨g15, 17, none⟩ = false := frozen_of_row _ _ _ _ _ h8
             have f18 : w8.frozen? ⟨g15, 18, none⟩ = false := frozen_of_row _ _ _ _ _ h8
             obtain ⟨h9, m9⟩ := set_tuple (d := b0.d) (x := Value.int .u16 b0.g) (y := Value.int .u16 b0.a) (z := Value.int .u32 b0.r) (show w8.heap[g15]? = some (.cells (dcs b0.d ++ [Value.int .u16 b0.g, Value.int .u16 b0.a, Value.int .u32 b0.r]).toArray 259 (0, 0)) from h8) (c16 pl) 0 (refOf prot (c.lba + k))
             have hS9 : Hid ((fun w' : World => w'.cell? ⟨dv, 1, none⟩ = some (.int .u8 prot) ∧ w'.cell? ⟨g, 2, none⟩ = some (.int .u64 c.lba) ∧ w'.rangeAt g15 0 (dcs pl)) (((w8.setCell ⟨g15, 16, none⟩ (.int .u16 (c16 pl))).setCell ⟨g15, 17, none⟩ (.int .u16 0)).setCell ⟨g15, 18, none⟩ (.int .u32 (refOf prot (c.lba + k))))) := hide ⟨m9.cell d8 hdg.out, m9.cell c8 hgg.out, fun j v hv => by
               have := ba_at h9 j v (by rw [encB, hbd0.out, List.getElem?_append_left (List.getElem?_eq_some_iff.1 hv).1]; exact hv)
               rwa [show (⟨g15, 0, none⟩ : Addr).add j = ⟨g15, 0 + j, none⟩ from by rw [Addr.add_mid]] at this⟩
             clear d8 c8
             replace m8 := hide m8; replace m78 := hide m78; replace h8 := hide h8; replace h9 := hide h9; replace m9 := hide m9))
        obtain ⟨b9, hb9⟩ : ∃ b9 : Bl, b9 = ⟨pl, c16 pl, 0, refOf prot (c.lba + k)⟩ := ⟨_, rfl⟩
        have h9' := h9.out
        rw [hbd0.out, ← hb9] at h9'
        have m9' := m9.out
        have hsn := samL_snoc prot c.lba pl k
        rw [← hb9] at hsn
        clear h9 m9 hS9
        generalize (((w8.setCell ⟨g15, 16, none⟩ (.int .u16 (c16 pl))).setCell ⟨g15, 17, none⟩ (.int .u16 0)).setCell ⟨g15, 18, none⟩ (.int .u32 (refOf prot (c.lba + k)))) = w9 at *
        have m79 : Mod (fun _ => False) wr w9 := (m57.out.trans m78.out (fun _ _ h => h)).trans m9' (fun i hi e => by have := hg15.out; omega)
        have r9a : Row (w9.alloc (.cells (ba b9) 259)) 259 19 encB (.slice A1 n1 c1) (samL prot c.lba pl k) := (hR.out.1.mod m79 (fun _ _ h => h)).alloc _
        have hbx : Rd (w9.alloc (.cells (ba b9) 259)) 19 encB (some ⟨w9.heap.size, 0, none⟩) 1 [b9] := Rd.box w9 encB b9 259
        replace h9' := hide h9'; replace m9' := hide m9'; replace hsn := hide hsn; replace m79 := hide m79; replace r9a := hide r9a; replace hbx := hide hbx; replace hb9 := hide hb9
        go_wp2_with (first
          | (refine list_load 259 (.tmp 15) rfl rfl _ Tryz.underlying259 rfl ⟨g15, 0, none⟩ (encB b9) (size259' _) rfl (ba_at h9'.out) ?_)
          | (refine list_build (.tmp 110) rfl rfl b9 rfl ?_)
          | (at_builtin; refine list_app (.tmp 109) (.tmp 111) 217 259 _ 19 24 encB rfl rfl encB_len encB_one Tryz.underlying217 elemB (.slice A1 n1 c1) (samL prot c.lba pl k) (some ⟨w9.heap.size, 0, none⟩) 1 1 [b9] ?_ ?_ r9a.out hbx.out ?_ ?_ ?_
             (rfl)
             (rfl)
             (rw [samL_len]; simp [maxLen]; omega)
             (rw [samL_len]; omega)
             intro v4 w10 r10 g10 a10
             rw [hsn.out] at r10
             obtain ⟨A10, n10, c10, rfl⟩ := r10.form
             replace r10 := hide r10; replace g10 := hide g10; replace a10 := hide a10))
        go_roundw
        case rel =>
          have M10 : Mod (fun _ => False) w5 w10 := ((hR.out.2.1.trans m79.out (fun _ _ h => h)).alloc _).grown g10.out (fun j hj => .inr (hR.out.2.2 j hj))
          refine ⟨k + 1, by omega, by go_num, ⟨_, _, _, rfl⟩, hide ⟨r10.out, M10, fun j hj => ?_⟩⟩
          rcases a10.out with e | e <;> rw [e] at hj
          · exact hR.out.2.2 j hj
          · have q1 := (hR.out.2.1.trans m79.out (fun _ _ h => h)).size
            simp at hj
            omega
        case measure => simp [intOf]; omega
      · obtain rfl : um = false := hum2.out
        obtain ⟨nb, hnb'⟩ : ∃ nb, nb = c.blocks := ⟨_, rfl⟩
        have hkb : k = nb := by omega
        subst hkb
        have hls := samL_len prot c.lba pl k
        have hokl : ∀ b ∈ samL prot c.lba pl k, OkBl b := fun b hb => by
          simp only [samL, List.mem_map, List.mem_range] at hb
          obtain ⟨i, hi, rfl⟩ := hb
          exact ⟨hl16.out, hpl.out, c16_b _, by simp, refOf_b prot (c.lba + i) (by omega)⟩
        have hdr := hd5.out.mod hR.out.2.1 (fun h => h)
        have hsr := hs5.out.mod hR.out.2.1 (fun h => h)
        have Wr := W5.out.mod hR.out.2.1 (fun _ _ h => h)
        have k2 := (hcm5.out.mod hR.out.2.1 (fun h => h)).c2
        have h6r := hR.out.2.1.heap h65.out (fun h => h)
        obtain ⟨A', c', he, -, -⟩ := hR.out.1.slice
        obtain ⟨rfl, rfl, rfl⟩ : A1 = A' ∧ n1 = (samL prot c.lba pl k).length ∧ c1 = c' := by injection he with a b c; exact ⟨a, b, c⟩
        have hown := hR.out.2.2
        have hlt := hR.out.1.lt
        have hwr := swrite_in B M dv p wb c1 prot x F s true false c.lba A1 (samL prot c.lba pl k) wr hdr hsr Wr hp (by omega) (by rw [hls]; omega) h1 h2 (hR.out.1.rd encB_len rfl) (fun ad e => by
          subst e
          have z1 := hown ad.block rfl
          have z2 := hlt ad.block rfl
          have z3 := m05.out.size
          exact ⟨fun h => by have := (hbd.out _ h).2; omega, z2⟩) hokl
        have hNr := hN5.out.add (Nat.le_trans hBs m05.out.size) hR.out.2.1
        rw [hls] at hwr
        replace hnb' := hide hnb'
        have hlsl : (samL prot c.lba pl k).length = k := hls
        rw [hlsl]
        replace hdr := hide hdr; replace hsr := hide hsr; replace Wr := hide Wr; replace h6r := hide h6r; replace hwr := hide hwr; replace hNr := hide hNr; replace hokl := hide hokl; replace hls := hide hls; replace hlsl := hide hlsl; replace hown := hide hown; replace hlt := hide hlt; replace he := hide he
        go_wp2_with (first
          | (go_at_call 104; (with_reducible refine hwr.out.mono ?_); rintro e w6 ⟨F', rfl, W6, N6⟩
             have h66 := N6.1.heap h6r.out hg6F
             have hF'6 : ¬ F' g6 := fun h => hg6F (N6.2.2 _ (Array.getElem?_eq_some_iff.1 h6r.out).1 h)
             replace W6 := hide W6; replace N6 := hide N6; replace h66 := hide h66)
          | (refine list_put 35 (.tmp 6) (.tmp 118) rfl rfl g6 (rcA 0 0 0 0 false (.slice none 0 0)) rfl rfl zs35 h66.out rfl size35 (rc_one _ _ _ _ _ _ _ _) ?_
             intro w8 h8 m8; replace h8 := hide h8; replace m8 := hide m8))
        rw [← hnb'.out]
        exact bodyPost_ret (v := okR (.slice none 0 0)) (results_one rfl rfl (load_whole h8.out Tryz.underlying35 rfl size35)) rfl ⟨rfl, F', W6.out.mod m8.out (fun k hk e => hF'6 (e ▸ hk)), (hNr.out.trans N6.out).new hBs m8.out hg6w⟩
end Go.Proofs.YtjkpelbhhapebaaGreatDoor
namespace Go.Proofs.YtjkpelbhhapebaaGreatDoor
open Go.RowKit
open W (Nxt)
set_option maxRecDepth 100000
set_option maxHeartbeats 8000000 in
theorem sdo_sync (B M dv p wb : Nat) (prot : Int) (c : Cm) (x : Wx) (F : Nat → Prop) (s : ByteArray) (cache : Bool) (P : Value) (w : World) (hd : DV w dv p prot) (hs : ST w p wb s cache) (hW : WU B w wb M x F) (_hp : ¬ F p) (_hdF : ¬ F dv) (hM : M < 80000) (hl : c.lba + c.blocks ≤ 32) (hkd : c.kind = 11)
    (hk : 0 ≤ prot ∧ prot ≤ 3) (hc : c.prot = 0) :
    Calls Tryz.prog 63 #[.pointer (some ⟨dv, 0, none⟩), .agg (cmA c), P] w fun e w' => ∃ F', e = .returned (okR (.slice none 0 0)) ∧ WU B w' wb (M + 1) x.synced F' ∧ Nxt B F F' w w' := by
  have hbd := hide hW.bound
  have hBs : B ≤ w.heap.size := by
    obtain ⟨d, N, h, -⟩ := hW
    exact h.2.2
  have hN0 := hide (W.Nxt.refl F w hBs (fun k hk => (hbd.out k hk).1))
  have hkn := fun w => known_ok prot c.prot w hk (.inl hc)
  have hwi := fun w => within_ok c.lba c.blocks 32 w (by omega) (by omega) (by omega) (by omega)
  replace hd := hide hd; replace hs := hide hs; replace hW := hide hW; replace hkn := hide hkn; replace hwi := hide hwi; replace hc := hide hc
  go_enter Tryz.func63, Tryz.ntmps63
  go_wp2_with (first
    | (refine list_box 104 (.tmp 1) rfl rfl (cmA c) rfl ?_
       intro w1 g hg hcm' m1 hz
       have hcm' : CM w1 g c := hcm'
       replace hcm' := hide hcm'; replace m1 := hide m1; replace hz := hide hz; replace hg := hide hg)
    | (refine list_al 35 _ new35' rfl rfl ?_
       intro W2 g6 hg6 h356 m6 hz6
       have m2 : Mod (fun _ => False) w W2 := m1.out.trans m6 (fun _ _ h => h)
       have hcm2 : CM W2 g c := hcm'.out.mod m6 (fun h => h)
       have hd2 := hd.out.mod m2 (fun h => h)
       have hs2 := hs.out.mod m2 (fun h => h)
       have k0 : W2.cell? ⟨g, 0, none⟩ = some (.int .u8 11) := by rw [hcm2.c0, hkd]
       have k2 := hcm2.c2
       have k3 := hcm2.c3
       have k6 := hcm2.c6
       have d0 := hd2.c0
       have d1 := hd2.c1
       replace hg6 := hide hg6; replace h356 := hide h356; replace m6 := hide m6; replace hz6 := hide hz6; replace m2 := hide m2; replace hcm2 := hide hcm2; replace hd2 := hide hd2; replace hs2 := hide hs2))
  go_quiet ((go_at_call 96; exact (hkn.out _).mono fun e w' h => ⟨h.1, _, h.2.symm⟩))
  go_wp2_with fail
  have hbl := fun n => blocks_in dv p wb prot s cache (W2.drewN n) hd2.out hs2.out
  replace hbl := hide hbl
  go_quiet ((first | (go_at_call 98; exact (hbl.out _).mono fun e w' h => ⟨h.1, _, h.2.symm⟩) | (go_at_call 97; exact (hwi.out _).mono fun e w' h => ⟨h.1, _, h.2.symm⟩)))
  have hN2 := fun n => hN0.out.add hBs (m2.out.drewN n)
  have hsy := fun n => ssync_in B M p wb x F s cache (W2.drewN n) hs2.out (hW.out.mod (m2.out.drewN n) (fun _ _ h => h)) (by omega)
  have hgo := fun w => good_any none 0 0 w
  have hg6F : ¬ F g6 := fun h => by have := (hbd.out _ h).2; have := hg6.out; have := m1.out.size; omega
  replace hN2 := hide hN2; replace hsy := hide hsy; replace hgo := hide hgo
  clear k2 k3 k6 d1
  go_wp2_with (first
    | (go_at_call 106; (with_reducible refine (hsy.out _).mono ?_); rintro e w3 ⟨F', rfl, W3, N3⟩
       have h63 := N3.1.heap (show (World.drewN W2 _).heap[g6]? = _ from h356.out) hg6F
       have hF'6 : ¬ F' g6 := fun h => hg6F (N3.2.2 _ (show g6 < W2.heap.size from (Array.getElem?_eq_some_iff.1 h356.out).1) h)
       have N03 := (hN2.out _).trans N3
       replace W3 := hide W3; replace h63 := hide h63; replace N03 := hide N03; clear N3)
    | (go_at_call 101; (with_reducible refine (hgo.out _).mono ?_); rintro e w7 ⟨rfl, m7⟩
       have h67 := m7.heap h63.out (fun h => h)
       replace m7 := hide m7; replace h67 := hide h67)
    | (refine list_put 35 (.tmp 6) (.tmp 119) rfl rfl g6 (rcA 0 0 0 0 false (.slice none 0 0)) rfl rfl zs35 h67.out rfl size35 (rc_one _ _ _ _ _ _ _ _) ?_
       intro w8 h8 m8; replace h8 := hide h8; replace m8 := hide m8))
  have hg6w : w.heap.size ≤ g6 := by have := m1.out.size; have := hg6.out; omega
  exact bodyPost_ret (v := okR (.slice none 0 0)) (results_one rfl rfl (load_whole h8.out Tryz.underlying35 rfl size35)) rfl ⟨F', rfl, (W3.out.mod m7.out (fun _ _ h => h)).mod m8.out (fun k hk e => hF'6 (e ▸ hk)), (N03.out.add (Nat.le_trans hBs N03.out.1.size) m7.out).new hBs m8.out hg6w⟩
set_option maxHeartbeats 8000000 in
theorem sdo_same (B M dv p wb pb pc : Nat) (prot : Int) (c : Cm) (x : Wx) (F : Nat → Prop) (s : ByteArray) (pl : List Int) (w : World) (hd : DV w dv p prot) (hs : ST w p wb s true) (hW : WU B w wb M x F) (hp : ¬ F p) (hdF : ¬ F dv) (hM : M < 80000) (hl : c.lba + c.blocks ≤ 32) (hkd : c.kind = 12) (h1 : 1 ≤ s.size) (h2 : s.size ≤ 32)
    (hk : 0 ≤ prot ∧ prot ≤ 3) (hc : c.prot = 0) (hr : Rd w 1 (ic .u8) (some ⟨pb, 0, none⟩) 16 pl) (hn1 : 1 ≤ c.blocks) (hnc : 16 ≤ pc) (hcm : pc ≤ maxLen) (hpl : Bytes pl) (um : Bool) (hum : um = (c.unmap && pl == List.replicate 16 0)) :
    Calls Tryz.prog 63 #[.pointer (some ⟨dv, 0, none⟩), .agg (cmA c), .slice (some ⟨pb, 0, none⟩) 16 pc] w fun e w' => ∃ F', e = .returned (okR (.slice none 0 0)) ∧
      WU B w' wb (M + 2 * c.blocks + 1) (if um then unmN x s c.lba c.blocks else laidX x s c.lba (samL prot c.lba pl c.blocks) false) F' ∧ Nxt B F F' w w' := by
  have hbd := hide hW.bound
  have hBs : B ≤ w.heap.size := by
    obtain ⟨d, N, h, -⟩ := hW
    exact h.2.2
  have hN0 := hide (W.Nxt.refl F w hBs (fun k hk => (hbd.out k hk).1))
  have hkn := fun w => known_ok prot c.prot w hk (.inl hc)
  have hwi := fun w => within_ok c.lba c.blocks 32 w (by omega) (by omega) (by omega) (by omega)
  have hsm := fun W (m : Mod (fun _ => False) w W) => same_in B M dv p wb pb pc prot c x F s pl W (hd.mod m (fun h => h)) (hs.mod m (fun h => h)) (hW.mod m (fun _ _ h => h)) hp hdF hM hl h1 h2 hk hc (hr.mod m (fun _ _ h => h)) hn1 hnc hcm hpl um hum
  generalize (if um then unmN x s c.lba c.blocks else laidX x s c.lba (samL prot c.lba pl c.blocks) false) = X2 at *
  replace hsm := hide hsm; replace hr := hide hr; replace hpl := hide hpl; replace hum := hide hum; replace hc := hide hc
  replace hd := hide hd; replace hs := hide hs; replace hW := hide hW; replace hkn := hide hkn; replace hwi := hide hwi
  go_enter Tryz.func63, Tryz.ntmps63
  go_wp2_with (first
    | (refine list_box 104 (.tmp 1) rfl rfl (cmA c) rfl ?_
       intro w1 g hg hcm' m1 hz
       have hcm' : CM w1 g c := hcm'
       replace hcm' := hide hcm'; replace m1 := hide m1; replace hz := hide hz; replace hg := hide hg)
    | (refine list_al 35 _ new35' rfl rfl ?_
       intro W2 g6 hg6 h356 m6 hz6
       have m2 : Mod (fun _ => False) w W2 := m1.out.trans m6 (fun _ _ h => h)
       have hcm2 : CM W2 g c := hcm'.out.mod m6 (fun h => h)
       have hd2 := hd.out.mod m2 (fun h => h)
       have hs2 := hs.out.mod m2 (fun h => h)
       have k0 : W2.cell? ⟨g, 0, none⟩ = some (.int .u8 12) := by rw [hcm2.c0, hkd]
       have k2 := hcm2.c2
       have k3 := hcm2.c3
       have k6 := hcm2.c6
       have d0 := hd2.c0
       have d1 := hd2.c1
       replace hg6 := hide hg6; replace h356 := hide h356; replace m6 := hide m6; replace hz6 := hide hz6; replace m2 := hide m2; replace hcm2 := hide hcm2; replace hd2 := hide hd2; replace hs2 := hide hs2))
  go_quiet ((go_at_call 96; exact (hkn.out _).mono fun e w' h => ⟨h.1, _, h.2.symm⟩))
  go_wp2_with fail
  have hbl := fun n => blocks_in dv p wb prot s true (W2.drewN n) hd2.out hs2.out
  replace hbl := hide hbl
  go_quiet ((first | (go_at_call 98; exact (hbl.out _).mono fun e w' h => ⟨h.1, _, h.2.symm⟩) | (go_at_call 97; exact (hwi.out _).mono fun e w' h => ⟨h.1, _, h.2.symm⟩)))
  have hN2 := fun n => hN0.out.add hBs (m2.out.drewN n)
  have hg6F : ¬ F g6 := fun h => by have := (hbd.out _ h).2; have := hg6.out; have := m1.out.size; omega
  replace hN2 := hide hN2
  clear k2 k3 k6 d0 d1
  go_wp2_with (first
    | (refine list_whole 104 (.tmp 4) rfl rfl ⟨g, 0, none⟩ (cmA c) rfl (load_whole (show (World.drewN W2 _).heap[g]? = _ from hcm2.out) Tryz.underlying104 rfl size104) ?_)
    | (go_at_call 107; (with_reducible refine (hsm.out _ (m2.out.drewN _)).mono ?_); rintro e w3 ⟨F', rfl, W3, N3⟩
       have h63 := N3.1.heap (show (World.drewN W2 _).heap[g6]? = _ from h356.out) hg6F
       have hF'6 : ¬ F' g6 := fun h => hg6F (N3.2.2 _ (show g6 < W2.heap.size from (Array.getElem?_eq_some_iff.1 h356.out).1) h)
       have N03 := (hN2.out _).trans N3
       replace W3 := hide W3; replace h63 := hide h63; replace N03 := hide N03; clear N3)
    | (refine list_put 35 (.tmp 6) (.tmp 125) rfl rfl g6 (rcA 0 0 0 0 false (.slice none 0 0)) rfl rfl zs35 h63.out rfl size35 (rc_one _ _ _ _ _ _ _ _) ?_
       intro w8 h8 m8; replace h8 := hide h8; replace m8 := hide m8))
  have hg6w : w.heap.size ≤ g6 := by have := m1.out.size; have := hg6.out; omega
  exact bodyPost_ret (v := okR (.slice none 0 0)) (results_one rfl rfl (load_whole h8.out Tryz.underlying35 rfl size35)) rfl ⟨F', rfl, W3.out.mod m8.out (fun k hk e => hF'6 (e ▸ hk)), N03.out.new hBs m8.out hg6w⟩
end Go.Proofs.YtjkpelbhhapebaaGreatDoor
