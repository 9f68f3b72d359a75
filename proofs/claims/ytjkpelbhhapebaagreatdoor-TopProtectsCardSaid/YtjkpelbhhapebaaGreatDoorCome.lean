/-
  sbc.come, walked: the blocks that came, given their tuples. Condition: whole blocks, no tuples came.
-/
import Derived.Test.YtjkpelbhhapebaaGreatDoorDiffer
import Derived.Deep.RegionHeld3
namespace Go.Proofs.YtjkpelbhhapebaaGreatDoor
open Go.RowKit
open W (Nxt)
set_option maxRecDepth 100000
theorem enc_tup (b : Bl) : (encB b)[16]? = some (.int .u16 b.g) ∧ (encB b)[17]? = some (.int .u16 b.a) ∧ (encB b)[18]? = some (.int .u32 b.r) := by
  have h := dcs_len b.d
  refine ⟨?_, ?_, ?_⟩ <;> simp [encB, h]
/-- The facts of a row's element that a store of its tuple wants. -/
theorem Row.tup {w : World} {G n c : Nat} {l : List Bl} (h : Row w 259 19 encB (.slice (some ⟨G, 0, none⟩) n c) l) (i : Nat) (hi : i < n) :
    (w.cell? ⟨G, i * 19 + 16, none⟩ = some (.int .u16 (gi l i).g) ∧ w.cell? ⟨G, i * 19 + 17, none⟩ = some (.int .u16 (gi l i).a) ∧ w.cell? ⟨G, i * 19 + 18, none⟩ = some (.int .u32 (gi l i).r)) ∧
      w.frozen? ⟨G, i * 19 + 16, none⟩ = false ∧ w.frozen? ⟨G, i * 19 + 17, none⟩ = false ∧ w.frozen? ⟨G, i * 19 + 18, none⟩ = false := by
  obtain ⟨ad, e, hc⟩ := (h.rd encB_len rfl).elemB i hi
  obtain rfl := Option.some.inj e
  have hn : l.length = n := (h.rd encB_len rfl).1
  subst hn
  obtain ⟨t1, t2, t3⟩ := enc_tup (gi l i)
  refine ⟨⟨?_, ?_, ?_⟩, World.ownsRow.frozenAt (w := w) h _, World.ownsRow.frozenAt (w := w) h _, World.ownsRow.frozenAt (w := w) h _⟩
  · have := hc 16 _ t1; rwa [addr_add, Addr.add_mid, Nat.zero_add] at this
  · have := hc 17 _ t2; rwa [addr_add, Addr.add_mid, Nat.zero_add] at this
  · have := hc 18 _ t3; rwa [addr_add, Addr.add_mid, Nat.zero_add] at this
def withT (b : Bl) (g a r : Int) : Bl := ⟨b.d, g, a, r⟩
theorem flat_set : ∀ (l : List Bl) (i : Nat) (g a r : Int), i < l.length →
    ((((l.flatMap encB).set (i * 19 + 16) (.int .u16 g)).set (i * 19 + 17) (.int .u16 a)).set (i * 19 + 18) (.int .u32 r)) = (l.set i (withT (gi l i) g a r)).flatMap encB
  | [], i, _, _, _, h => by simp at h
  | b :: l, 0, g, a, r, _ => by
    simp only [List.flatMap_cons, List.set_cons_zero, Nat.zero_mul, Nat.zero_add]
    have e : gi (b :: l) 0 = b := rfl
    rw [e]
    have h2 := encB_len b
    rw [List.set_append_left _ _ (by omega), List.set_append_left _ _ (by simp; omega), List.set_append_left _ _ (by simp; omega)]
    congr 1
  | b :: l, i + 1, g, a, r, hi => by
    have h2 := encB_len b
    have ih := flat_set l i g a r (by simpa using hi)
    have e : gi (b :: l) (i + 1) = gi l i := rfl
    simp only [List.flatMap_cons, List.set_cons_succ]
    rw [e, ← ih]
    rw [List.set_append_right _ _ (by omega), List.set_append_right _ _ (by omega), List.set_append_right _ _ (by omega), h2]
    rw [show (i + 1) * 19 + 16 - 19 = i * 19 + 16 from by omega, show (i + 1) * 19 + 17 - 19 = i * 19 + 17 from by omega, show (i + 1) * 19 + 18 - 19 = i * 19 + 18 from by omega]
theorem Row.tuple {w : World} {G n c : Nat} {l : List Bl} (h : Row w 259 19 encB (.slice (some ⟨G, 0, none⟩) n c) l) (i : Nat) (hi : i < l.length) (g a r : Int) :
    Row (((w.setCell ⟨G, i * 19 + 16, none⟩ (.int .u16 g)).setCell ⟨G, i * 19 + 17, none⟩ (.int .u16 a)).setCell ⟨G, i * 19 + 18, none⟩ (.int .u32 r)) 259 19 encB (.slice (some ⟨G, 0, none⟩) n c) (l.set i (withT (gi l i) g a r)) ∧
      Mod (fun j => j = G) w (((w.setCell ⟨G, i * 19 + 16, none⟩ (.int .u16 g)).setCell ⟨G, i * 19 + 17, none⟩ (.int .u16 a)).setCell ⟨G, i * 19 + 18, none⟩ (.int .u32 r)) := by
  have hn : l.length = n := (h.rd encB_len rfl).1
  subst hn
  have s1 := World.ownsRow.stored (w := w) h (i * 19 + 16) (.int .u16 g)
  have s2 := World.ownsRow.stored s1.1 (i * 19 + 17) (.int .u16 a)
  have s3 := World.ownsRow.stored s2.1 (i * 19 + 18) (.int .u32 r)
  refine ⟨?_, (((Mod.refl (fun j => j = G) w).setCell (p := ⟨G, _, none⟩) (.inl rfl) _).setCell (p := ⟨G, _, none⟩) (.inl rfl) _).setCell (p := ⟨G, _, none⟩) (.inl rfl) _⟩
  unfold Row
  rw [← flat_set l i g a r hi, List.length_set]
  exact s3.1
/-- The blocks with tuples of their places, the first k of them. -/
def tupd (prot lba : Int) (l : List Bl) (k : Nat) : List Bl := (List.range l.length).map fun i => if i < k then withT (gi l i) (c16 (gi l i).d) 0 (refOf prot (lba + i)) else gi l i
theorem tupd_len (prot lba : Int) (l : List Bl) (k : Nat) : (tupd prot lba l k).length = l.length := by simp [tupd]
theorem tupd_set (prot lba : Int) (l : List Bl) (k : Nat) : (tupd prot lba l k).set k (withT (gi l k) (c16 (gi l k).d) 0 (refOf prot (lba + k))) = tupd prot lba l (k + 1) := by
  apply List.ext_getElem
  · simp [tupd]
  · intro i h1 h2
    rw [List.getElem_set]
    by_cases e : k = i
    · subst e
      simp [tupd]
    · rw [if_neg e]
      simp only [tupd, List.getElem_map, List.getElem_range]
      by_cases h : i < k
      · rw [if_pos h, if_pos (by omega)]
      · rw [if_neg h, if_neg (by omega)]
set_option maxHeartbeats 4000000 in
theorem come_no (dv p cnt n pc : Nat) (prot : Int) (c : Cm) (A : Option Addr) (pl : List Int) (w : World) (hd : DV w dv p prot) (hr : Rd w 1 (ic .u8) A n pl) (hn : n = cnt * 16) (hc1 : 1 ≤ cnt) (hcn : cnt ≤ 4096) (hnc : n ≤ pc) (hcm : pc ≤ maxLen) (hpl : Bytes pl)
    (hk0 : 0 ≤ prot ∧ prot ≤ 3) (hc : c.prot = 0) (hlba : c.lba ≤ 100000) :
    Calls Tryz.prog 103 #[.pointer (some ⟨dv, 0, none⟩), .agg (cmA c), .slice A n pc, .int .u64 cnt] w fun e w' => ∃ v, e = .returned (.tuple #[v, okR (.slice none 0 0), .bool true]) ∧ Row w' 259 19 encB v (tupd prot c.lba (unL pl cnt) cnt) ∧ (∀ k, v.ownBlock = some k → w.heap.size ≤ k) ∧ Mod (fun _ => False) w w' := by
  have hok := unL_ok pl cnt hpl (by rw [hr.1, hn])
  have hun := fun w' (m : Mod (fun _ => False) w w') => unpack_no A n cnt pc pl w' (hr.mod m (fun _ _ h => h)) hn hcn hnc hcm
  have hul := unL_len pl cnt
  generalize unL pl cnt = l at *
  replace hd := hide hd; replace hr := hide hr; replace hpl := hide hpl; replace hok := hide hok; replace hun := hide hun; replace hn := hide hn
  go_enter Tryz.func103, Tryz.ntmps103
  go_wp2_with (first
    | (refine list_box 104 (.tmp 1) rfl rfl (cmA c) rfl ?_
       intro w1 g hg hcm m1 hz
       have hcm : CM w1 g c := hcm
       have k6 := hcm.c6
       rw [hc] at k6
       have m2 : Mod (fun _ => False) w (w1.alloc (.cells zs35 35)) := m1.alloc _
       have k62 := ((Mod.refl (fun _ => False) w1).alloc (.cells zs35 35)).cell k6 (fun h => h)
       have h35 := new35 w1
       have hu2 := hun.out _ m2
       have hcm2 := hcm.mod ((Mod.refl (fun _ => False) w1).alloc (.cells zs35 35)) (fun h => h)
       clear k6
       replace hcm := hide hcm; replace m1 := hide m1; replace hz := hide hz; replace hg := hide hg; replace m2 := hide m2; replace hu2 := hide hu2; replace h35 := hide h35; replace hcm2 := hide hcm2)
    | (go_at_call 134; (with_reducible refine hu2.out.mono ?_); rintro e w3 ⟨v, rfl, hrow, m3, hown⟩
       obtain ⟨A3, c3, rfl, -, -⟩ := hrow.slice
       rw [hul]
       replace hrow := hide hrow; replace hown := hide hown; replace m3 := hide m3))
  obtain ⟨G, hG⟩ : ∃ G, A3 = some ⟨G, 0, none⟩ := by
    rcases hrow.out.2 with ⟨-, h0⟩ | ⟨G, cap, cur, h, -⟩
    · omega
    · injection h with h _ _
      exact ⟨G, h⟩
  subst hG
  have hGw : w1.heap.size < G := by
    have := hown.out G rfl
    simp at this
    omega
  have hd3 := (hd.out.mod m2.out (fun h => h)).mod m3.out (fun h => h)
  have hcm3 := hcm2.out.mod m3.out (fun h => h)
  have h353 := m3.out.heap h35.out (fun h => h)
  have hP : Hid (Row w3 259 19 encB (.slice (some ⟨G, 0, none⟩) cnt c3) (tupd prot c.lba l 0) ∧ Mod (fun j => j = G) w3 w3) := hide ⟨by
    have e : tupd prot c.lba l 0 = l := by
      apply List.ext_getElem
      · simp [tupd]
      · intro i h1 h2
        simp [tupd, gi_eq l i h2]
    rw [e]
    have := hrow.out
    rwa [hul] at this, Mod.refl _ _⟩
  replace hd3 := hide hd3; replace hcm3 := hide hcm3; replace h353 := hide h353
  go_loopw [38] (fun v wr => ∃ k : Nat, k ≤ cnt ∧ v = .int .i64 k ∧ Hid (Row wr 259 19 encB (.slice (some ⟨G, 0, none⟩) cnt c3) (tupd prot c.lba l k) ∧ Mod (fun j => j = G) w3 wr)) (fun v _ => cnt - (intOf v).toNat)
  case atStart => exact ⟨0, by omega, rfl, hP⟩
  case round =>
    obtain ⟨k, hk, rfl, hR⟩ := hrel
    clear hP
    have hgG : g ≠ G := by have := hz.out; omega
    have hwG : w1.heap.size ≠ G := by omega
    by_cases hlk : k < cnt
    · have hdG : dv ≠ G := by
        have h1 := hd.out.lt
        have h2 := m1.out.size
        omega
      have hdr := hd3.out.mod hR.out.2 hdG
      have hcr := hcm3.out.mod hR.out.2 hgG
      have k2 := hcr.c2
      have hkl : k < l.length := by omega
      have hget : gi (tupd prot c.lba l k) k = gi l k := by
        rw [gi_eq _ k (by simp [tupd]; omega)]
        simp [tupd]
      obtain ⟨ad, hae, hcb⟩ := (hR.out.1.rd encB_len rfl).elemB k hlk
      obtain rfl := Option.some.inj hae
      rw [hget] at hcb
      have hokb := hok.out (gi l k) (by rw [gi_eq l k hkl]; exact List.getElem_mem _)
      have d1 := hdr.c1
      replace hdr := hide hdr; replace hcr := hide hcr; replace hcb := hide hcb; replace hokb := hide hokb; replace hget := hide hget
      have hdc : ∀ j u, (dcs (gi l k).d)[j]? = some u → wr.cell? ((⟨G, k * 19, none⟩ : Addr).add j) = some u := fun j u hu => by
        have := hcb.out j u (by rw [encB, List.getElem?_append_left (List.getElem?_eq_some_iff.1 hu).1]; exact hu)
        rwa [show (⟨G, 0, none⟩ : Addr).add (k * 19) = ⟨G, k * 19, none⟩ from by rw [Addr.add_mid, Nat.zero_add]] at this
      replace hdc := hide hdc
      go_wp2_with fail
      obtain ⟨d, hdd⟩ : ∃ d, d = (gi l k).d := ⟨_, rfl⟩
      rw [← hdd] at hdc
      have hS : ∀ w' : World, w'.cell? ⟨dv, 1, none⟩ = some (.int .u8 prot) → (∀ j u, (dcs d)[j]? = some u → w'.cell? ((⟨G, k * 19, none⟩ : Addr).add j) = some u) → w'.cell? ⟨dv, 1, none⟩ = some (.int .u8 prot) ∧ w'.rangeAt G (k * 19) (dcs d) := fun w' q1 q2 =>
        ⟨q1, fun j v hv => by have := q2 j v hv; rwa [Addr.add_mid] at this⟩
      have hS0 := hS wr d1 hdc.out
      have hu255 : Tryz.prog.underlying 255 = some (.array 16 5) := by kernel_rfl
      have hi255 : (Tryz.prog.info? 255).map (·.size) = some (dcs d).length := by rw [dcs_len]; kernel_rfl
      have hmk : ∀ W : World, Calls Tryz.prog 139 #[.int .u8 prot, .int .u64 ((c.lba : Int) + k), .agg (dcs d).toArray, .int .u16 0] W fun e w' => e = .returned (.agg #[.int .u16 (c16 d), .int .u16 0, .int .u32 (refOf prot (c.lba + k))]) ∧ Mod (fun _ => False) W w' := fun W => make_any prot ((c.lba : Int) + k) 0 d W (by rw [hdd]; exact hokb.out.1) (by rw [hdd]; exact hokb.out.2.1) (by omega)
      replace hS := hide hS; replace hS0 := hide hS0; replace hmk := hide hmk; replace hdd := hide hdd
      clear d1
      go_region_held3 (fun w' => w'.cell? ⟨dv, 1, none⟩ = some (.int .u8 prot) ∧ w'.rangeAt G (k * 19) (dcs d))
        (first | exact hS0.out | exact hS1.out | exact hS2.out)
        (first
        | (go_at_call 139; (with_reducible refine (hmk.out _).mono ?_); rintro e w5 ⟨rfl, m5⟩
           have m05 : Mod (fun _ => False) wr w5 := ((Mod.refl (fun _ => False) wr).drew).trans m5 (fun _ _ h => h)
           have hS1 := hS.out w5 ((hdr.out.mod m05 (fun h => h)).c1) (fun j u hu => m05.cell (hdc.out j u hu) (fun h => h))
           have r5 := hR.out.1.mod m05 (fun _ _ h => h)
           obtain ⟨⟨q16, q17, q18⟩, f16, f17, f18⟩ := Row.tup r5 k hlk
           have hst := Row.tuple r5 k (by rw [tupd_len]; exact hkl) (c16 d) 0 (refOf prot (c.lba + k))
           rw [hget.out, show c16 d = c16 (gi l k).d from by rw [hdd.out], tupd_set _ _ _ _, ← hdd.out] at hst
           have hd5 := ((hdr.out.mod m05 (fun h => h)).mod hst.2 hdG).c1
           have hS2 := hS.out _ hd5 (fun j u hu => by
             obtain ⟨a6, e6, hc6⟩ := (hst.1.rd encB_len rfl).elemB k hlk
             obtain rfl := Option.some.inj e6
             have hg6 : gi (tupd prot c.lba l (k + 1)) k = withT (gi l k) (c16 (gi l k).d) 0 (refOf prot (c.lba + k)) := by
               rw [gi_eq _ k (by rw [tupd_len]; exact hkl)]
               simp [tupd]
             have := hc6 j u (by rw [hg6, encB, List.getElem?_append_left (by have := (List.getElem?_eq_some_iff.1 hu).1; rw [dcs_len] at this ⊢; exact this)]; rw [hdd.out] at hu; exact hu)
             rwa [show (⟨G, 0, none⟩ : Addr).add (k * 19) = ⟨G, k * 19, none⟩ from by rw [Addr.add_mid, Nat.zero_add]] at this)
           replace hS2 := hide hS2
           replace r5 := hide r5
           replace m5 := hide m5; replace m05 := hide m05; replace hS1 := hide hS1; replace hst := hide hst))
      go_wp2_with fail
      go_roundw
      case rel => exact ⟨k + 1, by omega, by go_num, hide ⟨hst.out.1, (hR.out.2.trans (m05.out.mono (G := fun j => j = G) (fun _ _ h => h.elim)) (fun _ _ h => h)).trans hst.out.2 (fun _ _ h => h)⟩⟩
      case measure => simp [intOf]; omega
    · obtain rfl : k = cnt := by omega
      have h35r := hR.out.2.heap h353.out hwG
      replace h35r := hide h35r
      go_wp2_with (first
        | (refine list_put 35 (.tmp 9) (.tmp 82) rfl rfl w1.heap.size (rcA 0 0 0 0 false (.slice none 0 0)) rfl rfl zs35 h35r.out rfl size35 (rc_one _ _ _ _ _ _ _ _) ?_
           intro w7 h7 m7; replace h7 := hide h7; replace m7 := hide m7))
      have M4 : Mod (fun _ => False) w wr := (m2.out.trans m3.out (fun _ _ h => h)).trans hR.out.2 (fun i hi e => by
        have h1 := m1.out.size
        omega)
      have h1 := m1.out.size
      exact bodyPost_ret (v := .tuple #[.slice (some ⟨G, 0, none⟩) k c3, okR (.slice none 0 0), .bool true]) (results_mid rfl rfl (load_whole h7.out Tryz.underlying35 rfl size35) rfl rfl) rfl ⟨_, rfl,
        hR.out.1.mod m7.out (fun j hj e => by
          simp only [Value.ownBlock, Option.some.injEq] at hj
          omega),
        fun j hj => by
          simp only [Value.ownBlock, Option.some.injEq] at hj
          omega, M4.trans m7.out (fun i hi e => by omega)⟩
end Go.Proofs.YtjkpelbhhapebaaGreatDoor
