/-
  sbc.read, walked. Conditions: the range lies in the store; its blocks are well where they lie.
-/
import Derived.Test.YtjkpelbhhapebaaGreatDoorRes
import Derived.StillTailTactics
import Derived.Deep.RegionHeld3
namespace Go.Proofs.YtjkpelbhhapebaaGreatDoor
open Go.RowKit
open W (Nxt)
set_option maxRecDepth 100000
section
variable {P : Program} {w : World} {ops : Array Oper} {rest : List Oper} {o : Oper} {a : Act} {Q : Act → Prop}
/-- A struct read whole, in the head of a region that draws. -/
theorem still_load (ty : TypeId) (x : Operand) (ho : o.op = .load ty x) (hg : o.guard = none) (d : TypeDesc) (hu : P.underlying ty = some d) (hd : (match d with | .struct _ | .array _ _ => true | _ => false) = true)
    (ad : Addr) (cs : List Value) (hi : (P.info? ty).map (·.size) = some cs.length) (hx : a.eval x = .pointer (some ad)) (hc : ∀ j u, cs[j]? = some u → w.cell? (ad.add j) = some u)
    (h : wpStill P ops w Q rest (a.put o.dst (.agg cs.toArray))) : wpStill P ops w Q (o :: rest) a := by
  have hw : Region.wanted o (yielded ops a.tmps) = true := by simp [Region.wanted, hg]
  refine wpStill_step fun K hK => ?_
  rw [if_pos hw]
  unfold Oper.still execOp
  simp only [ho, hx, Instr.loadAt, Instr.sureAddr, Sem.run_bind, Sem.run_pure, Result.andThen_ok, run_loadVar_at w ty ad cs d hc hu hd hi]
  simp only [Oper.stillUpon]
  exact ⟨trivial, hK _ h⟩
end
section
variable {w : World} {ops : Array Oper} {rest : List Oper} {o : Oper} {a : Act} {Q : Exit → Act → World → Prop}
/-- A struct is laid in a variable of its own. -/
theorem list_box {P : Program} (T : TypeId) (x : Operand) (ho : o.op = .box T x) (hg : o.guard = none) (cs : Array Value) (hx : a.eval x = .agg cs)
    (h : ∀ w' g, g = w.heap.size → w'.heap[g]? = some (.cells cs T (0, 0)) → Mod (fun _ => False) w w' → w'.heap.size = g + 1 → wpList P ops Q rest (a.put o.dst (.pointer (some ⟨g, 0, none⟩))) w') : wpList P ops Q (o :: rest) a w := by
  refine wpList_plain hg fun _ hK => ?_
  have hb : (Instr.box T (.agg cs)).run P w = .ok (.pointer (some ⟨w.heap.size, 0, none⟩)) (w.alloc (.cells cs T)) := by simp [Instr.box, newVar, newRow, Value.cells]
  unfold Oper.wp execOp
  simp only [ho, hx]
  simp only [Sem.run_bind, hb, Result.andThen_ok]
  exact hK _ _ (h _ _ rfl (heap_alloc_new _ _) ((Mod.refl _ w).alloc _) (by simp))
end
/-- Three results, the second a variable of its own, read whole. -/
theorem results_mid {P : Program} {W : World} {fn : Func} {tmps : Array Value} {i k j : Nat} {T : TypeId} {ad : Addr} {v a b : Value} (hfn : fn.results = #[.tmp i, .cell k T, .tmp j]) (ht : tmps.getD k undef = .pointer (some ad)) (hl : (loadVar T ad).run P W = .ok v W) (ha : tmps.getD i undef = a) (hb : tmps.getD j undef = b) :
    (results fn tmps).run P W = .ok (.tuple #[a, v, b]) W := by
  subst ha hb
  unfold results
  simp only [hfn, List.mapM_toArray, List.mapM_cons, List.mapM_nil, ht, asAddr, Sem.run_bind, Sem.run_pure, Result.andThen_ok, hl, Sem.run_map, bind_pure_comp, map_pure]
  rfl
/-- A command. -/
structure Cm where
  kind : Int
  long : Bool
  lba : Nat
  blocks : Nat
  alloc : Int
  fua : Bool
  prot : Int
  unmap : Bool
  evpd : Bool
  page : Int
  control : Int
  save : Bool
  service : Int
  type : Int
  bytes : Bool
def cmA (c : Cm) : Array Value := #[.int .u8 c.kind, .bool c.long, .int .u64 c.lba, .int .u64 c.blocks, .int .i64 c.alloc, .bool c.fua, .int .u8 c.prot, .bool c.unmap, .bool c.evpd, .int .u8 c.page, .int .u8 c.control, .bool c.save, .int .u8 c.service, .int .u8 c.type, .bool c.bytes]
def CM (w : World) (g : Nat) (c : Cm) : Prop := w.heap[g]? = some (.cells (cmA c) 104 (0, 0))
section
variable {w w' : World} {g : Nat} {c : Cm} {F : Nat → Prop}
theorem CM.at_ (h : CM w g c) (i : Nat) : w.cell? ⟨g, i, none⟩ = (cmA c)[i]? := cell_of_row w g i _ 104 (0, 0) h
theorem CM.lt (h : CM w g c) : g < w.heap.size := (Array.getElem?_eq_some_iff.1 h).1
theorem CM.mod (h : CM w g c) (hm : Mod F w w') (hn : ¬ F g) : CM w' g c := hm.heap h hn
theorem CM.c2 (h : CM w g c) : w.cell? ⟨g, 2, none⟩ = some (.int .u64 c.lba) := h.at_ 2
theorem CM.c3 (h : CM w g c) : w.cell? ⟨g, 3, none⟩ = some (.int .u64 c.blocks) := h.at_ 3
theorem CM.c6 (h : CM w g c) : w.cell? ⟨g, 6, none⟩ = some (.int .u8 c.prot) := h.at_ 6
end
set_option maxHeartbeats 4000000 in
theorem sread_in (B M dv p wb : Nat) (prot : Int) (c : Cm) (x : Wx) (F : Nat → Prop) (s : ByteArray) (cache : Bool) (w : World) (hd : DV w dv p prot) (hs : ST w p wb s cache) (hW : WU B w wb M x F) (hp : ¬ F p) (hdF : ¬ F dv) (hM : M < 90000) (hl : c.lba + c.blocks ≤ 32) (h1 : 1 ≤ s.size) (h2 : s.size ≤ 32)
    (hf : Bytes (x.file s)) (hk0 : 0 ≤ prot ∧ prot ≤ 3) (hc : 0 ≤ c.prot ∧ c.prot ≤ 4) (hb : ∀ i, i < 32 → OkBl (blkAt (x.file s) i) ∧ WellAt prot i (blkAt (x.file s) i)) :
    Calls Tryz.prog 100 #[.pointer (some ⟨dv, 0, none⟩), .agg (cmA c)] w fun e w' => ∃ v, e = .returned (.tuple #[v, okR (.slice none 0 0), .bool true]) ∧ Row w' 259 19 encB v (blks (x.file s) c.lba c.blocks) ∧ (∀ k, v.ownBlock = some k → w.heap.size ≤ k) ∧
      WU B w' wb (M + c.blocks) x F ∧ Nxt B F F w w' := by
  have hbd := hide hW.bound
  have hBs : B ≤ w.heap.size := by
    obtain ⟨d, N, h, -⟩ := hW
    exact h.2.2
  have hN0 := hide (W.Nxt.refl F w hBs (fun k hk => (hbd.out k hk).1))
  have hl2 : c.lba ≤ 32 := by omega
  have hl3 : c.blocks ≤ 32 := by omega
  replace hd := hide hd; replace hs := hide hs; replace hW := hide hW; replace hf := hide hf; replace hb := hide hb
  go_enter Tryz.func100, Tryz.ntmps100
  go_wp2_with (first
    | (refine list_box 104 (.tmp 1) rfl rfl (cmA c) rfl ?_
       intro w1 g hg hcm m1 hz
       have hcm : CM w1 g c := hcm
       replace hcm := hide hcm; replace m1 := hide m1; replace hz := hide hz; replace hg := hide hg))
  obtain ⟨W2, hW2⟩ : ∃ W2, W2 = w1.alloc (.cells zs35 35) := ⟨_, rfl⟩
  refine wp_at hW2 ?_
  have m2 : Mod (fun _ => False) w W2 := by rw [hW2]; exact m1.out.alloc _
  have h35 : W2.heap[w1.heap.size]? = some (.cells zs35 35 (0, 0)) := by rw [hW2]; exact new35 w1
  have hcm2 : CM W2 g c := by rw [hW2]; exact hcm.out.mod ((Mod.refl (fun _ => False) w1).alloc _) (fun h => h)
  have hg1 : g ≠ w1.heap.size := by have := hcm.out.lt; omega
  have hgw : w.heap.size ≤ g ∧ w.heap.size ≤ w1.heap.size := by have := hg.out; have := hz.out; omega
  clear hW2
  have hd2 := hd.out.mod m2 (fun h => h)
  have hs2 := hs.out.mod m2 (fun h => h)
  have hWu2 := hW.out.mod m2 (fun _ _ h => h)
  have hN2 := hN0.out.add hBs m2
  have d0 := hd2.c0
  have k2 := hcm2.c2
  have k3 := hcm2.c3
  have hrd := read_in B M p wb x F s cache c.lba c.blocks W2.drew hs2 (hWu2.mod ((Mod.refl (fun _ => False) W2).drew) (fun _ _ h => h)) hp hM hl h1 h2 hf.out
  replace hd2 := hide hd2; replace hs2 := hide hs2; replace hWu2 := hide hWu2; replace hN2 := hide hN2; replace hcm2 := hide hcm2; replace h35 := hide h35; replace m2 := hide m2; replace hrd := hide hrd
  have hS2 : W2.cell? ⟨dv, 0, none⟩ = some (.pointer (some ⟨p, 0, none⟩)) ∧ W2.cell? ⟨g, 2, none⟩ = some (.int .u64 c.lba) ∧ W2.cell? ⟨g, 3, none⟩ = some (.int .u64 c.blocks) := ⟨d0, k2, k3⟩
  replace hS2 := hide hS2
  have hgF : ¬ F g := fun h => by have := (hbd.out g h).2; omega
  have hwF : ¬ F w1.heap.size := fun h => by have := (hbd.out _ h).2; omega
  have e1 : IntKind.i64.wrap (c.lba : Int) = (c.lba : Int) := IntWalk.i64_in _ (by omega)
  have e2 : IntKind.i64.wrap (c.blocks : Int) = (c.blocks : Int) := IntWalk.i64_in _ (by omega)
  go_region_held3 (fun w' => w'.cell? ⟨dv, 0, none⟩ = some (.pointer (some ⟨p, 0, none⟩)) ∧ w'.cell? ⟨g, 2, none⟩ = some (.int .u64 c.lba) ∧ w'.cell? ⟨g, 3, none⟩ = some (.int .u64 c.blocks))
    (first | exact hS2.out | exact hS3.out)
    (first
    | (go_at_call 136; (with_reducible refine hrd.out.mono ?_); rintro e w3 ⟨v, rfl, hrow, hown, hW3, hN3⟩
       obtain ⟨A3, n3, c3, rfl⟩ := hrow.form
       have hn3 : n3 = c.blocks := by
         obtain ⟨A', c', e, -, -⟩ := hrow.slice
         injection e with _ e _
         rw [e, blks_len]
       subst hn3
       have a3 : Mod F W2 w3 := ((Mod.refl F W2).drew).trans hN3.1 (fun _ _ h => h)
       have hcm3 := hcm2.out.mod a3 hgF
       have hd3 := hd2.out.mod a3 hdF
       have h353 := a3.heap h35.out hwF
       replace a3 := hide a3
       have hS3 : w3.cell? ⟨dv, 0, none⟩ = some (.pointer (some ⟨p, 0, none⟩)) ∧ w3.cell? ⟨g, 2, none⟩ = some (.int .u64 c.lba) ∧ w3.cell? ⟨g, 3, none⟩ = some (.int .u64 c.blocks) := ⟨hd3.c0, hcm3.c2, hcm3.c3⟩
       replace hrow := hide hrow; replace hown := hide hown; replace hW3 := hide hW3; replace hN3 := hide hN3; replace hcm3 := hide hcm3; replace hd3 := hide hd3; replace h353 := hide h353; replace hS3 := hide hS3))
  clear e1 e2 d0 k2 k3
  go_wp2_with fail
  obtain ⟨n, hn⟩ : ∃ n, n = c.blocks := ⟨_, rfl⟩
  go_loopw [39] (fun v wr => ∃ k : Nat, k ≤ c.blocks ∧ v = .int .i64 k ∧ Hid (Mod (fun _ => False) w3 wr)) (fun v _ => c.blocks - (intOf v).toNat)
  case atStart => exact ⟨0, by omega, rfl, hide (Mod.refl _ _)⟩
  case round =>
    obtain ⟨k, hk, rfl, mR⟩ := hrel
    by_cases hlk : k < c.blocks
    · obtain ⟨ad, rfl, hcb⟩ := ((hrow.out.rd encB_len rfl).mod mR.out (fun _ _ h => h)).elemB k hlk
      obtain ⟨hok, hwell⟩ := hb.out (c.lba + k) (by omega)
      rw [blks_get _ _ _ _ hlk] at hcb
      have hck : ∀ w, Calls Tryz.prog 137 #[.int .u8 prot, .int .u8 c.prot, .int .u64 ((c.lba : Int) + k), .agg (encB (blkAt (x.file s) (c.lba + k))).toArray] w fun e w' => e = .returned (.int .u16 0) ∧ Mod (fun _ => False) w w' := fun w =>
        check_ok prot c.prot ((c.lba : Int) + k) (blkAt (x.file s) (c.lba + k)) w hk0 hc (by omega) hok (by have := hwell; rwa [show (((c.lba + k : Nat)) : Int) = (c.lba : Int) + k from by push_cast; rfl] at this)
      generalize blkAt (x.file s) (c.lba + k) = b at *
      replace hck := hide hck
      have hdr := hd3.out.mod mR.out (fun h => h)
      have hcr := hcm3.out.mod mR.out (fun h => h)
      have k2 := hcr.c2
      replace hcb := hide hcb; replace hok := hide hok; replace hwell := hide hwell; replace hdr := hide hdr; replace hcr := hide hcr
      go_wp2_with (first
        | (refine list_load 259 (.tmp 42) rfl rfl _ Tryz.underlying259 rfl (ad.add (k * 19)) (encB b) (size259' _) rfl hcb.out ?_)
        | (refine list_new rfl rfl ?_
           intro w4 g4 hg4 h4 m4 hz4
           replace m4 := hide m4; replace h4 := hide h4; replace hg4 := hide hg4; replace hz4 := hide hz4)
        | (refine list_put 259 (.tmp 11) (.tmp 43) rfl rfl g4 (ba b) rfl rfl zs19 h4.out (by rw [ba_size]; rfl) (by rw [ba_size]; exact size259) (ba_one _) ?_
           intro w5 h5 m5
           have m35 : Mod (fun _ => False) wr w5 := m4.out.trans m5 (fun i hi e => by rw [e, hg4.out] at hi; omega)
           have k25 := m35.cell k2 (fun h => h)
           have d15 := (hdr.out.mod m35 (fun h => h)).c1
           have k65 := (hcr.out.mod m35 (fun h => h)).c6
           replace h5 := hide h5; replace m5 := hide m5; replace m35 := hide m35))
      refine wp_region_still_tail 8 (by kernel_rfl) (by kernel_rfl) ?_
      simp only [List.take_succ_cons, List.take_zero, List.drop_succ_cons, List.drop_zero]
      repeat (first
        | (refine still_load 259 (.tmp 11) rfl rfl _ Tryz.underlying259 rfl ⟨g4, 0, none⟩ (encB b) (size259' _) rfl (ba_at h5.out) ?_)
        | still_step)
      refine wpStill_nil ?_
      change wpList _ _ _ _ _ w5.drew
      go_wp2_with (go_at_call 137; (with_reducible refine (hck.out _).mono ?_); rintro e w6 ⟨rfl, m6⟩
                   replace m6 := hide m6)
      go_roundw
      case rel => exact ⟨k + 1, by omega, by go_num, hide ((mR.out.trans m35.out.drew (fun _ _ h => h)).trans m6.out (fun _ _ h => h))⟩
      case measure => simp [intOf]; omega
    · obtain rfl : k = c.blocks := by omega
      have h35r := mR.out.heap h353.out (fun h => h)
      replace h35r := hide h35r
      go_wp2_with (first
        | (refine list_put 35 (.tmp 5) (.tmp 65) rfl rfl w1.heap.size (rcA 0 0 0 0 false (.slice none 0 0)) rfl rfl zs35 h35r.out rfl size35 (rc_one _ _ _ _ _ _ _ _) ?_
           intro w7 h7 m7; replace h7 := hide h7; replace m7 := hide m7))
      have a3 : Nxt B F F w w3 := (hN2.out.add (Nat.le_trans hBs m2.out.size) ((Mod.refl _ W2).drew)).trans hN3.out
      have aR := a3.add (Nat.le_trans hBs a3.1.size) mR.out
      exact bodyPost_ret (v := .tuple #[.slice A3 c.blocks c3, okR (.slice none 0 0), .bool true]) (results_mid rfl rfl (load_whole h7.out Tryz.underlying35 rfl size35) rfl rfl) rfl ⟨_, rfl,
        (hrow.out.mod mR.out (fun _ _ h => h)).mod m7.out (fun j hj e => by
          subst e
          have q1 := hown.out _ hj
          have q2 := (Array.getElem?_eq_some_iff.1 h35.out).1
          exact absurd q1 (Nat.not_le.2 q2)),
        fun j hj => Nat.le_trans m2.out.size (hown.out _ hj), (hW3.out.mod mR.out (fun _ _ h => h)).mod m7.out (fun j hj e => hwF (e ▸ hj)), aR.new hBs m7.out hgw.2⟩
end Go.Proofs.YtjkpelbhhapebaaGreatDoor
