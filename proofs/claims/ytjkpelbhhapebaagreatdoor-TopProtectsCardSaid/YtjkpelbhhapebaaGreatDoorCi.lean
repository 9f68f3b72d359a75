/-
  Unit.run, walked: TEST UNIT READY, and what goes to the device. Conditions: as stated. The unit's commands: TEST UNIT READY, READ, WRITE, COMPARE AND WRITE, from the nexus's side. Conditions: nothing is reserved; the range lies in the unit. whole: a unit over a world, told that the power came on; awake's first part. Conditions: what was kept is read as told. onBlocks, good, sixteen, awake, walked. Conditions: as stated. COMPARE AND WRITE from the nexus's side; block 3 as TopCompares writes it. Conditions: nothing is reserved; the range lies in the unit. A turn of TopCompares, in steps. Conditions: as stated.
-/
import Derived.Test.YtjkpelbhhapebaaGreatDoorUDo
import Derived.StillTailTactics
namespace Go.Proofs.YtjkpelbhhapebaaGreatDoor
open Go.RowKit
open W (Nxt)
set_option maxRecDepth 100000
section
variable {P : Program} {w : World} {ops : Array Oper} {rest : List Oper} {o : Oper} {a : Act} {Q : Act → Prop}
/-- A variable that is known whole is read whole, in the head of a region that draws. -/
theorem still_whole (ty : TypeId) (x : Operand) (ho : o.op = .load ty x) (hg : o.guard = none) (ad : Addr) (cs : Array Value) (hx : a.eval x = .pointer (some ad)) (hl : (loadVar ty ad).run P w = .ok (.agg cs) w)
    (h : wpStill P ops w Q rest (a.put o.dst (.agg cs))) : wpStill P ops w Q (o :: rest) a := by
  have hw : Region.wanted o (yielded ops a.tmps) = true := by simp [Region.wanted, hg]
  refine wpStill_step fun K hK => ?_
  rw [if_pos hw]
  unfold Oper.still execOp
  simp only [ho, hx, Instr.loadAt, Instr.sureAddr, Sem.run_bind, Sem.run_pure, Result.andThen_ok, hl]
  simp only [Oper.stillUpon]
  exact ⟨trivial, hK _ h⟩
end
set_option maxHeartbeats 4000000 in
theorem run_tur (B : Nat) (c : Nat → Nat) (a : UA) (S : US) (n : Nat) (cm : Cm) (P : Value) (w : World) (h : UN B c w a S 0) (hkd : cm.kind = 1) :
    Calls Tryz.prog 28 #[.pointer (some ⟨a.u, 0, none⟩), .int .i64 n, .agg (cmA cm), P] w (ResP B c w a.u fun st key code info has D a2 S2 => st = 0 ∧ key = 0 ∧ code = 0 ∧ info = 0 ∧ has = false ∧ D = [] ∧ a2 = a ∧ S2 = S) := by
  obtain ⟨u, hu⟩ : ∃ u, u = a.u := ⟨_, rfl⟩
  rw [← hu]
  replace h := hide h; replace hu := hide hu
  go_enter Tryz.func28, Tryz.ntmps28
  go_wp2_with (first
    | (refine list_box 104 (.tmp 2) rfl rfl (cmA cm) rfl ?_
       intro w1 g hg hcm1 m1 hz
       have hcm1 : CM w1 g cm := hcm1
       replace hcm1 := hide hcm1; replace m1 := hide m1; replace hz := hide hz; replace hg := hide hg)
    | (refine list_al 35 _ new35' rfl rfl ?_
       intro w2 g8 hg8 h82 m2 hz2
       have m02 : Mod (fun _ => False) w w2 := m1.out.trans m2 (fun _ _ h => h)
       have hcm2 : CM w2 g cm := hcm1.out.mod m2 (fun h => h)
       have k0 : w2.cell? ⟨g, 0, none⟩ = some (.int .u8 1) := by rw [hcm2.c0, hkd]
       replace hg8 := hide hg8; replace h82 := hide h82; replace m2 := hide m2; replace hz2 := hide hz2; replace m02 := hide m02; replace hcm2 := hide hcm2)
    | (refine list_put 35 (.tmp 8) (.tmp 23) rfl rfl g8 (rcA 0 0 0 0 false (.slice none 0 0)) rfl rfl zs35 h82.out rfl size35 (rc_one _ _ _ _ _ _ _ _) ?_
       intro w3 h3 m3; replace h3 := hide h3; replace m3 := hide m3))
  have hg8w : w.heap.size ≤ g8 := by have := hg8.out; have := m1.out.size; omega
  have K := h.out.keep m02.out
  exact bodyPost_ret (v := rsA 0 0 0 0 false (.slice none 0 0)) (results_one rfl rfl (load_whole h3.out Tryz.underlying35 rfl size35)) rfl ⟨0, 0, 0, 0, false, none, 0, 0, [], c, a, S, rfl, Row.nil _ _ _ _, by simp [Value.ownBlock], K.1.mod m3.out (fun k e => by rw [e]; exact h.out.sup _ hg8w), hu.out.symm, K.2.own m3.out hg8w h.out.big, rfl, rfl, rfl, rfl, rfl, rfl, rfl, rfl⟩
set_option maxHeartbeats 8000000 in
theorem run_dev (B : Nat) (c : Nat → Nat) (a : UA) (S : US) (n : Nat) (cm : Cm) (P : Value) (w : World) (h : UN B c w a S 0) (k : Int) (hkd : cm.kind = k) (hk : k ∈ [7, 8, 11, 12, 14]) (RR : Int → Int → Int → Int → Bool → List Int → UA → US → Prop)
    (hdo : ∀ W, Mod (fun _ => False) w W → Calls Tryz.prog 63 #[.pointer (some ⟨a.dv, 0, none⟩), .agg (cmA cm), P] W (ResP B c W a.u RR)) :
    Calls Tryz.prog 28 #[.pointer (some ⟨a.u, 0, none⟩), .int .i64 n, .agg (cmA cm), P] w (ResP B c w a.u RR) := by
  obtain ⟨u, hu⟩ : ∃ u, u = a.u := ⟨_, rfl⟩
  rw [← hu] at hdo ⊢
  replace h := hide h; replace hu := hide hu; replace hdo := hide hdo
  simp only [List.mem_cons, List.not_mem_nil, or_false] at hk
  rcases hk with rfl | rfl | rfl | rfl | rfl
  all_goals
    go_enter Tryz.func28, Tryz.ntmps28
    go_wp2_with (first
      | (refine list_box 104 (.tmp 2) rfl rfl (cmA cm) rfl ?_
         intro w1 g hg hcm1 m1 hz
         have hcm1 : CM w1 g cm := hcm1
         replace hcm1 := hide hcm1; replace m1 := hide m1; replace hz := hide hz; replace hg := hide hg)
      | (refine list_al 35 _ new35' rfl rfl ?_
         intro w2 g8 hg8 h82 m2 hz2
         have m02 : Mod (fun _ => False) w w2 := m1.out.trans m2 (fun _ _ h => h)
         have hcm2 : CM w2 g cm := hcm1.out.mod m2 (fun h => h)
         have k0 := hcm2.c0
         rw [hkd] at k0
         obtain ⟨k5, -⟩ := (h.out.keep m02).1.cells
         rw [← hu.out] at k5
         replace hg8 := hide hg8; replace h82 := hide h82; replace m2 := hide m2; replace hz2 := hide hz2; replace m02 := hide m02; replace hcm2 := hide hcm2))
    refine wp_region_still_tail 6 (by kernel_rfl) (by kernel_rfl) ?_
    simp only [List.take_succ_cons, List.take_zero, List.drop_succ_cons, List.drop_zero]
    repeat (first
      | (refine still_whole 104 (.tmp 6) rfl rfl ⟨g, 0, none⟩ (cmA cm) rfl (load_whole hcm2.out Tryz.underlying104 rfl size104) ?_)
      | still_step)
    refine wpStill_nil ?_
    change wpList _ _ _ _ _ w2.drew
    have c8 : c g8 = 0 := h.out.sup _ (by have := hg8.out; have := m1.out.size; omega)
    have hdo2 := hdo.out w2.drew m02.out.drew
    replace hdo2 := hide hdo2
    go_wp2_with (first
      | (go_at_call 63; (with_reducible refine hdo2.out.mono ?_); rintro e w12 ⟨st, key, code, info, has, A, dn, dc, D, c12, a12, S12, rfl, hrow, hown, U12, hu12, X12, hRR⟩
         have h812 := X12.keep0 (show w2.drew.heap[g8]? = _ from h82.out) c8
         replace hrow := hide hrow; replace hown := hide hown; replace U12 := hide U12; replace hu12 := hide hu12; replace hRR := hide hRR; replace h812 := hide h812; replace X12 := hide X12)
      | (refine list_put 35 (.tmp 8) (.tmp 150) rfl rfl g8 (rcA st key code info has (.slice A dn dc)) rfl rfl zs35 h812.out.1 rfl size35 (rc_one _ _ _ _ _ _ _ _) ?_
         intro w13 h13 m13; replace h13 := hide h13; replace m13 := hide m13))
    have hg8w : w.heap.size ≤ g8 := by have := hg8.out; have := m1.out.size; omega
    have K := h.out.keep m02.out.drew
    have hl8 := (Array.getElem?_eq_some_iff.1 h82.out).1
    have hs2 := m02.out.size
    exact bodyPost_ret (v := rsA st key code info has (.slice A dn dc)) (results_one rfl rfl (load_whole h13.out Tryz.underlying35 rfl size35)) rfl ⟨st, key, code, info, has, A, dn, dc, D, c12, a12, S12, rfl, hrow.out.mod m13.out (fun k hk e => by
      have := (hown.out k hk).1
      simp at this
      omega), fun k hk => ⟨by have := (hown.out k hk).1; simp at this; omega, (hown.out k hk).2⟩, U12.out.mod m13.out (fun k e => by rw [e]; exact h812.out.2), hu12.out, (K.2.trans X12.out).own m13.out hg8w h.out.big, hRR.out⟩
end Go.Proofs.YtjkpelbhhapebaaGreatDoor
namespace Go.Proofs.YtjkpelbhhapebaaGreatDoor
open Go.RowKit
open W (Nxt)
set_option maxRecDepth 100000
theorem TB.cells {w : World} {t : Nat} {v : Value} {T : Tb} (h : TB w t v T) : w.cell? ⟨t, 0, none⟩ = some v ∧ w.cell? ⟨t, 1, none⟩ = some (.int .u32 T.gen) ∧ w.cell? ⟨t, 2, none⟩ = some (.int .u8 T.kind) ∧ w.cell? ⟨t, 3, none⟩ = some (.int .i64 T.holder) ∧ w.cell? ⟨t, 4, none⟩ = some (.bool T.aptpl) := by
  refine ⟨?_, ?_, ?_, ?_, ?_⟩ <;> rw [cell_of_row w t _ _ 151 (0, 0) h] <;> rfl
theorem conf_free {B : Nat} {c : Nat → Nat} {w : World} {a : UA} {S : US} {mu : Int} (h : UN B c w a S mu) (hk : S.T.kind = 0) (n cls : Int) :
    Calls Tryz.prog 25 #[.pointer (some ⟨a.tb, 0, none⟩), .int .i64 n, .int .u8 cls] w fun e w' => e = .returned (.bool false) ∧ Mod (fun _ => False) w w' := by
  obtain ⟨F, ⟨v, hT, -⟩, -⟩ := h.tbl
  obtain ⟨-, -, k2, -, -⟩ := hT.cells
  rw [hk] at k2
  have hE : Hid (Mod (fun _ => False) w w) := hide (Mod.refl _ _)
  replace h := hide h; replace hT := hide hT
  go_enter Tryz.func25, Tryz.ntmps25
  go_wp2
  go_ret
  exact ⟨rfl, hE.out⟩
/-- The store's blocks, all well. -/
def Wel (S : US) (D : Nat → Bl) : Prop := SX S.x.seen sd D ∧ ∀ i, OkBl (D i) ∧ WellAt S.prot i (D i)
theorem Wel.file {S : US} {D : Nat → Bl} (h : Wel S D) : Bytes (S.x.file sd) ∧ (∀ i, i < 32 → OkBl (blkAt (S.x.file sd) i) ∧ WellAt S.prot i (blkAt (S.x.file sd) i)) ∧ ∀ i, blkAt (S.x.file sd) i = D i := by
  obtain ⟨⟨h1, h2, h3⟩, h4⟩ := h
  exact ⟨h1, fun i _ => by rw [Wx.file_eq, h3 i]; exact h4 i, h3⟩
section
variable {B : Nat} {c : Nat → Nat} {w : World} {a : UA} {S : US}
theorem UN.nF {mu : Int} (h : UN B c w a S mu) {F : Nat → Prop} (hF : ∀ k, F k → c k = 1) : ¬ F a.p ∧ ¬ F a.dv :=
  ⟨fun e => (by have := h.sto.2.1; rw [hF _ e] at this; cases this), fun e => (by have := h.dev.2.1; rw [hF _ e] at this; cases this)⟩
/-- READ at the device. -/
theorem UN.devread (h : UN B c w a S 0) (D : Nat → Bl) (hD : Wel S D) (cm : Cm) (P : Value) (hM : S.bd < 80000) (hl : cm.lba + cm.blocks ≤ 32) (hkd : cm.kind = 7) (hk : 0 ≤ S.prot ∧ S.prot ≤ 3) (hc : 0 ≤ cm.prot ∧ (cm.prot = 0 ∨ 0 < S.prot ∧ cm.prot ≤ 4)) :
    Calls Tryz.prog 63 #[.pointer (some ⟨a.dv, 0, none⟩), .agg (cmA cm), P] w (ResP B c w a.u fun st key code info has Q a2 S2 => st = 0 ∧ key = 0 ∧ code = 0 ∧ info = 0 ∧ has = false ∧ Q = packL (cm.prot != 0) ((List.range cm.blocks).map fun i => D (cm.lba + i)) ∧ a2 = a ∧ S2 = { S with bd := S.bd + cm.blocks }) := by
  obtain ⟨F, hW, hF⟩ := h.wu
  obtain ⟨f1, f2, f3⟩ := hD.file
  obtain ⟨n1, n2⟩ := h.nF hF
  refine (sdo_read B S.bd a.dv a.p a.wb S.prot cm S.x F sd S.cache P w h.dev.1 h.sto.1 hW n1 n2 hM hl hkd (by decide) (by decide) f1 hk hc f2).mono ?_
  rintro e w' ⟨A, n, cp, rfl, hrow, hown, hW', hN⟩
  obtain ⟨q1, q2⟩ := h.world0 hF (S.bd + cm.blocks) S.x hW' hN
  refine ⟨0, 0, 0, 0, false, A, n, cp, _, c, a, _, rfl, hrow, fun k hk => ⟨hown k hk, h.sup k (hown k hk)⟩, q1, rfl, q2, rfl, rfl, rfl, rfl, rfl, ?_, rfl, rfl⟩
  have : blks (S.x.file sd) cm.lba cm.blocks = (List.range cm.blocks).map fun i => D (cm.lba + i) := by
    unfold blks
    exact List.map_congr_left fun i _ => f3 _
  rw [this]
/-- COMPARE AND WRITE at the device. -/
theorem UN.devcmp (h : UN B c w a S 0) (D : Nat → Bl) (hD : Wel S D) (cm : Cm) (pb pc : Nat) (pl : List Int) (hM : S.bd < 80000) (hl : cm.lba + cm.blocks ≤ 32) (hkd : cm.kind = 14) (hb1 : cm.blocks = 1) (hk : 0 ≤ S.prot ∧ S.prot ≤ 3) (hc : cm.prot = 0)
    (hr : Rd w 1 (ic .u8) (some ⟨pb, 0, none⟩) 32 pl) (hnc : 32 ≤ pc) (hcm : pc ≤ maxLen) (hpl : Bytes pl) :
    Calls Tryz.prog 63 #[.pointer (some ⟨a.dv, 0, none⟩), .agg (cmA cm), .slice (some ⟨pb, 0, none⟩) 32 pc] w (ResP B c w a.u fun st key code info _ _ a2 S2 => ∃ r M' x', Fd (D cm.lba).d (pl.take 16) r ∧ M' ≤ S.bd + 4 ∧ (r < 0 → st = 0 ∧ x' = laidX S.x sd cm.lba (tupd S.prot cm.lba (unL (pl.drop 16) 1) 1) (cm.fua || !S.cache)) ∧
      (0 ≤ r → st = 2 ∧ key = 14 ∧ code = 7424 ∧ info = r ∧ x' = S.x) ∧ a2 = a ∧ S2 = { S with x := x', bd := M' }) := by
  obtain ⟨F, hW, hF⟩ := h.wu
  obtain ⟨f1, f2, f3⟩ := hD.file
  obtain ⟨n1, n2⟩ := h.nF hF
  refine (sdo_cmp B S.bd a.dv a.p a.wb pc S.prot cm S.x F sd S.cache pb pl w h.dev.1 h.sto.1 hW n1 n2 hM hl hkd hb1 (by decide) (by decide) f1 hk hc f2 hr hnc hcm hpl).mono ?_
  rintro e w' ⟨F', r, x', M', hM', rfl, hfd, hx', hW', hN⟩
  obtain ⟨c', q1, q2⟩ := h.world hF M' x' hW' hN
  rw [f3] at hfd
  by_cases hr0 : r < 0
  · rw [if_pos hr0] at hx' ⊢
    exact ⟨0, 0, 0, 0, false, none, 0, 0, [], c', a, _, rfl, Row.nil _ _ _ _, by simp [Value.ownBlock], q1, rfl, q2, r, M', x', hfd, hM', fun _ => ⟨rfl, hx'⟩, fun h0 => by omega, rfl, rfl⟩
  · rw [if_neg hr0] at hx' ⊢
    exact ⟨2, 14, 7424, r, true, none, 0, 0, [], c', a, _, rfl, Row.nil _ _ _ _, by simp [Value.ownBlock], q1, rfl, q2, r, M', x', hfd, hM', fun h0 => by omega, fun _ => ⟨rfl, rfl, rfl, rfl, hx'⟩, rfl, rfl⟩
end
/-- READ, from the nexus's side. -/
theorem unit_read (B : Nat) (c : Nat → Nat) (a : UA) (S : US) (D : Nat → Bl) (n lba k ab cap : Nat) (f prot : Int) (fua : Bool) (P : Value) (w : World) (h : UN B c w a S 0) (hdn : S.done = 1) (h8 : n < 8) (hD : Wel S D) (hM : S.bd < 80000) (hq : S.L n = []) (hT : S.T.kind = 0)
    (hf : FlagOk f prot fua) (hl : lba + k ≤ 32) (hk : 0 ≤ S.prot ∧ S.prot ≤ 3) (hc : 0 ≤ prot ∧ (prot = 0 ∨ 0 < S.prot ∧ prot ≤ 4)) (hr : Rd w 1 (ic .u8) (some ⟨ab, 0, none⟩) 16 (onB 136 f lba k)) (hab : c ab = 0) (hcap : 16 ≤ cap) :
    Calls Tryz.prog 10 #[.pointer (some ⟨a.u, 0, none⟩), .int .i64 n, .slice (some ⟨ab, 0, none⟩) 16 cap, P] w (ResP B c w a.u fun st key code info has Q a2 S2 => st = 0 ∧ key = 0 ∧ code = 0 ∧ info = 0 ∧ has = false ∧ Q = packL (prot != 0) ((List.range k).map fun i => D (lba + i)) ∧ a2.wb = a.wb ∧ S2 = { S with bd := S.bd + k }) :=
  do_run B c a S S n ab 16 cap _ (cmB 7 lba k fua prot false) P w h (StC.again B a S hdn) h8 hr (by omega) hab (fun W hr' => parse_rw 136 7 f prot fua lba k ab cap W (.inl ⟨rfl, rfl⟩) hf (by omega) (by omega) hr' hcap) 7 1 false rfl (by decide) (by decide) (by decide) (by decide) (by decide) hq
    (fun c' W a' U => conf_free U hT _ _) (by intro e; cases e) _ (fun c' W a' U e1 e2 _ => by
      rw [← e1]
      exact (run_dev B c' a' S n (cmB 7 lba k fua prot false) P W U 7 rfl (by decide) _ (fun W2 m => ((U.keep m).1.devread D hD (cmB 7 lba k fua prot false) P hM hl rfl hk hc))).mono fun e w' hres => by
        obtain ⟨st, key, code, info, has, A, n', cp, Q, c2, a2, S2, r1, r2, r3, r4, r5, r6, r7, r8, r9, r10, r11, r12, r13, r14⟩ := hres
        exact ⟨st, key, code, info, has, A, n', cp, Q, c2, a2, S2, r1, r2, r3, r4, r5, r6, r7, r8, r9, r10, r11, r12, by rw [r13, e2], r14⟩)
end Go.Proofs.YtjkpelbhhapebaaGreatDoor
namespace Go.Proofs.YtjkpelbhhapebaaGreatDoor
open Go.RowKit
open W (Nxt)
set_option maxRecDepth 100000
theorem make6 (w : World) : (Instr.makeSlice 22 (.int .i64 6) (.int .i64 6)).run Tryz.prog w = .ok (.slice (some ⟨w.heap.size, 0, none⟩) 6 6) (w.alloc (.cells #[(.int .u8 0 : Value), .int .u8 0, .int .u8 0, .int .u8 0, .int .u8 0, .int .u8 0] 5)) := by kernel_rfl
theorem rd6 (w : World) : Rd (w.alloc (.cells #[(.int .u8 0 : Value), .int .u8 0, .int .u8 0, .int .u8 0, .int .u8 0, .int .u8 0] 5)) 1 (ic .u8) (some ⟨w.heap.size, 0, none⟩) 6 tur := rd_block (k := .u8) (l := tur) (heap_alloc_new w _) rfl
theorem popL_one (x : Int) : popL [x] = [] := by
  simp [popL, A.fi]
/-- The lists while the k first nexuses have been told. -/
def told (L : Nat → List Int) (k : Nat) : Nat → List Int := fun i => if i < k then [] else L i
theorem told_put (L : Nat → List Int) (k : Nat) : A.put (told L k) k [] = told L (k + 1) := by
  funext i
  simp only [A.put, told]
  by_cases h : i = k
  · simp [h]
  · by_cases h2 : i < k
    · simp [h, h2, Nat.lt_succ_of_lt h2]
    · have : ¬ i < k + 1 := by omega
      simp [h, h2, this]
/-- TEST UNIT READY where something waits. -/
theorem unit_told (B : Nat) (c : Nat → Nat) (a : UA) (S S1 : US) (n ab cap : Nat) (P : Value) (w : World) (h : UN B c w a S 0) (hst : StC B a S S1) (h8 : n < 8) (hw : 0 < (S1.L n).length) (hr : Rd w 1 (ic .u8) (some ⟨ab, 0, none⟩) 6 tur) (hab : c ab = 0) (hcap : 6 ≤ cap) :
    Calls Tryz.prog 10 #[.pointer (some ⟨a.u, 0, none⟩), .int .i64 n, .slice (some ⟨ab, 0, none⟩) 6 cap, P] w
      (ResP B c w a.u fun st key code info has D a2 S2 => st = 2 ∧ key = 6 ∧ code = gi (S1.L n) (A.fi (S1.L n) (S1.L n).length).toNat ∧ info = 0 ∧ has = false ∧ D = [] ∧ a2.wb = a.wb ∧ S2 = { S1 with L := A.put S1.L n (popL (S1.L n)) }) :=
  do_wait B c a S S1 n ab 6 cap tur (cm0 1) P w h hst h8 hr (by omega) hab (fun W hr' => parse_tur ab cap W hr' hcap) 1 rfl (by decide) (by decide) (by decide) hw
/-- TEST UNIT READY where nothing waits. -/
theorem unit_tur (B : Nat) (c : Nat → Nat) (a : UA) (S : US) (n ab cap : Nat) (P : Value) (w : World) (h : UN B c w a S 0) (hdn : S.done = 1) (h8 : n < 8) (hq : S.L n = []) (hT : S.T.kind = 0) (hr : Rd w 1 (ic .u8) (some ⟨ab, 0, none⟩) 6 tur) (hab : c ab = 0) (hcap : 6 ≤ cap) :
    Calls Tryz.prog 10 #[.pointer (some ⟨a.u, 0, none⟩), .int .i64 n, .slice (some ⟨ab, 0, none⟩) 6 cap, P] w
      (ResP B c w a.u fun st key code info has D a2 S2 => st = 0 ∧ key = 0 ∧ code = 0 ∧ info = 0 ∧ has = false ∧ D = [] ∧ a2.wb = a.wb ∧ S2 = S) :=
  do_run B c a S S n ab 6 cap tur (cm0 1) P w h (StC.again B a S hdn) h8 hr (by omega) hab (fun W hr' => parse_tur ab cap W hr' hcap) 1 1 false rfl (by decide) (by decide) (by decide) (by decide) (by decide) hq
    (fun c' W a' U => conf_free U hT _ _) (by intro e; cases e) _ (fun c' W a' U e1 e2 _ => by
      rw [← e1]
      exact (run_tur B c' a' S n (cm0 1) P W U rfl).mono fun e w' hres => by
        obtain ⟨st, key, code, info, has, A, n', cp, Q, c2, a2, S2, r1, r2, r3, r4, r5, r6, r7, r8, r9, r10, r11, r12, r13, r14⟩ := hres
        exact ⟨st, key, code, info, has, A, n', cp, Q, c2, a2, S2, r1, r2, r3, r4, r5, r6, r7, r8, r9, r10, r11, r12, by rw [r13, e2], r14⟩)
set_option maxHeartbeats 8000000 in
theorem whole_in (B bd wb : Nat) (prot : Int) (x : Wx) (F : Nat → Prop) (S1 : US) (w : World) (hW : WU B w wb bd x F) (hp : 0 ≤ prot ∧ prot ≤ 3) (hst : ∀ a, a.wb = wb → StC B a (us0 prot bd x) S1) (hL : ∀ i, i < 8 → S1.L i = [10496]) (hdn : S1.done = 1) :
    Calls Tryz.prog 8 #[.pointer (some ⟨wb, 0, none⟩), .int .u8 prot] w fun e w' => ∃ c a, e = .returned (.pointer (some ⟨a.u, 0, none⟩)) ∧ a.wb = wb ∧ UN B c w' a { S1 with L := told S1.L 8 } 0 ∧ Mod F w w' ∧ Below B w w' ∧ ∀ k, k < w.heap.size → c k ≠ 0 → F k := by
  have hBs : B ≤ w.heap.size := by
    obtain ⟨d, N, h, -⟩ := hW
    exact h.2.2
  have hnew : Calls Tryz.prog 18 #[.pointer (some ⟨wb, 0, none⟩), .string ⟨#[117]⟩, .agg #[.string ⟨#[]⟩, .string ⟨#[]⟩, .string ⟨#[]⟩, .string ⟨#[83]⟩, .int .u8 prot, .int .i64 32]] w fun e w' => ∃ c a, e = .returned (.tuple #[.pointer (some ⟨a.u, 0, none⟩), .int .i64 0]) ∧ a.wb = wb ∧ UN B c w' a (us0 prot bd x) 0 ∧ Mod (fun _ => False) w w' ∧ ∀ k, k < w.heap.size → c k ≠ 0 → F k :=
    unew_in B bd wb prot x F w hW hp
  have hmk := make6
  have hFB : ∀ k, F k → B ≤ k := fun k hk => (hW.bound k hk).1
  replace hW := hide hW; replace hnew := hide hnew; replace hst := hide hst; replace hL := hide hL; replace hdn := hide hdn; replace hFB := hide hFB
  go_enter Tryz.func8, Tryz.ntmps8
  go_wp2_with (go_at_call 18; (with_reducible refine hnew.out.mono ?_); rintro e w1 ⟨c1, a1, rfl, hwb1, U1, M1, hF1⟩
               replace hwb1 := hide hwb1; replace U1 := hide U1; replace M1 := hide M1; replace hF1 := hide hF1)
  obtain ⟨u, hu⟩ : ∃ u, u = a1.u := ⟨_, rfl⟩
  rw [← hu]
  have hP : Hid (∃ c a S, UN B c w1 a S 0 ∧ a.u = u ∧ a.wb = wb ∧ UX B c1 c w1 w1 ∧ StC B a S { S1 with L := told S1.L 0 }) := hide ⟨c1, a1, _, U1.out, hu.symm, hwb1.out, UX.refl U1.out, by
    have e : told S1.L 0 = S1.L := by funext i; simp [told]
    rw [e]
    exact hst.out a1 hwb1.out⟩
  replace hu := hide hu
  go_loopw [7] (fun v wr => ∃ k : Nat, k ≤ 8 ∧ v = .int .i64 k ∧ Hid (∃ c a S, UN B c wr a S 0 ∧ a.u = u ∧ a.wb = wb ∧ UX B c1 c w1 wr ∧ if k = 0 then StC B a S { S1 with L := told S1.L 0 } else S = { S1 with L := told S1.L k })) (fun v _ => 8 - (intOf v).toNat)
  case atStart => exact ⟨0, by omega, rfl, by simpa using hP⟩
  case round =>
    obtain ⟨k, hk, rfl, hR⟩ := hrel
    clear hP
    obtain ⟨c2, a2, S2, U2, hu2, hwb2, X2, hS2⟩ := hR.out
    clear hR
    have hst2 : k < 8 → StC B a2 S2 { S1 with L := told S1.L k } := fun hk8 => by
      split at hS2
      · rename_i h0
        subst h0
        exact hS2
      · rw [hS2]
        exact StC.again B a2 _ hdn.out
    have hdone : k = 8 → S2 = { S1 with L := told S1.L k } := fun h => by rwa [if_neg (by omega)] at hS2
    clear hS2
    by_cases hlk : k < 8
    · have ma : Mod (fun _ => False) wr (wr.alloc (.cells #[(.int .u8 0 : Value), .int .u8 0, .int .u8 0, .int .u8 0, .int .u8 0, .int .u8 0] 5)) := (Mod.refl _ wr).alloc _
      have hlone : told S1.L k k = [10496] := by simp [told, hL.out k hlk]
      have hdo := unit_told B c2 a2 S2 { S1 with L := told S1.L k } k wr.heap.size 6 (.slice none 0 0) _ (U2.keep ma).1 (hst2 hlk) hlk (by show 0 < (told S1.L k k).length; rw [hlone]; decide) (rd6 wr) (U2.sup _ (Nat.le_refl _)) (by omega)
      have X2a := X2.trans (U2.keep ma).2
      rw [hu2] at hdo
      clear hst2 hdone
      replace hdo := hide hdo; replace X2a := hide X2a; replace U2 := hide U2; replace hu2 := hide hu2; replace hwb2 := hide hwb2; replace X2 := hide X2; replace ma := hide ma; replace hlone := hide hlone
      go_wp2_with (go_at_call 10; (with_reducible refine hdo.out.mono ?_); rintro e w3 ⟨st, key, code, info, has, A3, n3, c3', D3, c3, a3, S3, rfl, -, -, U3, hu3, X3, -, -, -, -, -, -, hwb3, hS3⟩
                   replace U3 := hide U3; replace hu3 := hide hu3; replace X3 := hide X3; replace hwb3 := hide hwb3; replace hS3 := hide hS3)
      go_roundw
      case rel => exact ⟨k + 1, by omega, by go_num, hide ⟨c3, a3, S3, U3.out, hu3.out, by rw [hwb3.out, hwb2.out], X2a.out.trans X3.out, by
        rw [if_neg (by omega), hS3.out]
        show ({ S1 with L := A.put (told S1.L k) k (popL (told S1.L k k)) } : US) = _
        rw [hlone.out, popL_one, told_put]⟩⟩
      case measure => simp [intOf]; omega
    · obtain rfl : k = 8 := by omega
      have hS := hdone rfl
      subst hS
      replace U2 := hide U2; replace hu2 := hide hu2; replace hwb2 := hide hwb2; replace X2 := hide X2
      clear hst2 hdone
      go_wp2_with fail
      go_ret
      refine ⟨c2, a2, by rw [hu2.out]; rfl, hwb2.out, U2.out, ?_, (M1.out.below hBs (fun _ h => h.elim)).trans X2.out.bel, fun k hk hc => hF1.out k hk (by
        rw [← X2.out.col k (Nat.lt_of_lt_of_le hk M1.out.size)]
        exact hc)⟩
      exact (M1.out.mono (G := F) (fun _ _ h => h.elim)).trans X2.out.mod (fun i hi e => hF1.out i hi e)
end Go.Proofs.YtjkpelbhhapebaaGreatDoor
namespace Go.Proofs.YtjkpelbhhapebaaGreatDoor
open Go.RowKit
open W (Nxt)
set_option maxRecDepth 100000
set_option maxHeartbeats 1000000 in
theorem onb_any (op f : Int) (lba n : Nat) (w : World) (h1 : lba ≤ 255) (h2 : n ≤ 255) :
    Calls Tryz.prog 11 #[.int .u8 op, .int .u8 f, .int .i64 lba, .int .i64 n] w fun e w' => e = .returned (.slice (some ⟨w.heap.size, 0, none⟩) 16 16) ∧ w'.heap[w.heap.size]? = some (.cells ((onB op f lba n).map (Value.int .u8)).toArray 5 (0, 0)) ∧ Mod (fun _ => False) w w' := by
  have e1 : (lba : Int) / 256 = 0 := by omega
  have e2 : (n : Int) / 256 = 0 := by omega
  have w1 : IntKind.u8.wrap (lba : Int) = lba := by rw [u8wrap]; omega
  have w2 : IntKind.u8.wrap (n : Int) = n := by rw [u8wrap]; omega
  have w3 : IntKind.u8.wrap 0 = 0 := by rw [u8wrap]; rfl
  have e3 : (lba : Int) % 256 = lba := by omega
  have e4 : (n : Int) % 256 = n := by omega
  have hE : Hid ((w.alloc (.cells ((onB op f lba n).map (Value.int .u8)).toArray 5)).heap[w.heap.size]? = some (.cells ((onB op f lba n).map (Value.int .u8)).toArray 5 (0, 0)) ∧ Mod (fun _ => False) w (w.alloc (.cells ((onB op f lba n).map (Value.int .u8)).toArray 5))) := hide ⟨heap_alloc_new _ _, (Mod.refl _ w).alloc _⟩
  go_enter Tryz.func11, Tryz.ntmps11
  go_wp2
  go_ret
  exact ⟨rfl, hE.out⟩
set_option maxHeartbeats 1000000 in
theorem good_res (st key code info : Int) (has : Bool) (A : Option Addr) (n c : Nat) (w : World) : Calls Tryz.prog 12 #[.agg (rcA st key code info has (.slice A n c))] w fun e w' => e = .returned (.bool (st == 0)) ∧ Mod (fun _ => False) w w' := by
  have hE : Hid (Mod (fun _ => False) w (w.alloc (.cells (rcA st key code info has (.slice A n c)) 35))) := hide ((Mod.refl _ w).alloc _)
  go_enter Tryz.func12, Tryz.ntmps12
  go_wp2
  go_ret
  exact ⟨rfl, hE.out⟩
/-- Sixteen bytes, out of any. -/
def sixt (l : List Int) (fill : Int) (k : Nat) : List Int := (List.range 16).map fun i => if i < k then (if i < l.length then gi l i else fill) else 0
theorem sixt_len (l : List Int) (fill : Int) (k : Nat) : (sixt l fill k).length = 16 := by simp [sixt]
theorem sixt_zero (l : List Int) (fill : Int) : sixt l fill 0 = List.replicate 16 0 := by simp [sixt]; rfl
theorem sixt_set (l : List Int) (fill : Int) (k : Nat) : (sixt l fill k).set k (if k < l.length then gi l k else fill) = sixt l fill (k + 1) := by
  apply List.ext_getElem
  · simp [sixt]
  · intro i h1 h2
    rw [List.getElem_set]
    by_cases h : k = i
    · subst h
      simp [sixt]
    · rw [if_neg h]
      simp only [sixt, List.getElem_map, List.getElem_range]
      by_cases h3 : i < k
      · simp [h3, show i < k + 1 from by omega]
      · simp [h3, show ¬ i < k + 1 from by omega]
theorem make16 (w : World) : (Instr.makeSlice 22 (.int .i64 16) (.int .i64 16)).run Tryz.prog w = .ok (.slice (some ⟨w.heap.size, 0, none⟩) 16 16) (w.alloc (.cells #[(.int .u8 0 : Value), .int .u8 0, .int .u8 0, .int .u8 0, .int .u8 0, .int .u8 0, .int .u8 0, .int .u8 0, .int .u8 0, .int .u8 0, .int .u8 0, .int .u8 0, .int .u8 0, .int .u8 0, .int .u8 0, .int .u8 0] 5)) := by kernel_rfl
set_option maxHeartbeats 2000000 in
theorem sixteen_all (A : Option Addr) (n c : Nat) (l : List Int) (fill : Int) (w : World) (hr : Rd w 1 (ic .u8) A n l) :
    Calls Tryz.prog 13 #[.slice A n c, .int .u8 fill] w fun e w' => ∃ g, e = .returned (.slice (some ⟨g, 0, none⟩) 16 16) ∧ Row w' 5 1 (ic .u8) (.slice (some ⟨g, 0, none⟩) 16 16) (sixt l fill 16) ∧ w.heap.size ≤ g ∧ Mod (fun _ => False) w w' := by
  have hmk := make16
  have hl : l.length = n := hr.1
  have hrow : Row (w.alloc (.cells #[(.int .u8 0 : Value), .int .u8 0, .int .u8 0, .int .u8 0, .int .u8 0, .int .u8 0, .int .u8 0, .int .u8 0, .int .u8 0, .int .u8 0, .int .u8 0, .int .u8 0, .int .u8 0, .int .u8 0, .int .u8 0, .int .u8 0] 5)) 5 1 (ic .u8) (.slice (some ⟨w.heap.size, 0, none⟩) 16 16) (sixt l fill 0) := by
    rw [sixt_zero]
    exact row_lit (k := .u8) (l := List.replicate 16 0) (heap_alloc_new w _) (by decide)
  have m0 : Mod (fun _ => False) w (w.alloc (.cells #[(.int .u8 0 : Value), .int .u8 0, .int .u8 0, .int .u8 0, .int .u8 0, .int .u8 0, .int .u8 0, .int .u8 0, .int .u8 0, .int .u8 0, .int .u8 0, .int .u8 0, .int .u8 0, .int .u8 0, .int .u8 0, .int .u8 0] 5)) := (Mod.refl _ w).alloc _
  obtain ⟨g, hg⟩ : ∃ g, g = w.heap.size := ⟨_, rfl⟩
  rw [← hg] at hrow
  have hP : Hid (Row (w.alloc (.cells #[(.int .u8 0 : Value), .int .u8 0, .int .u8 0, .int .u8 0, .int .u8 0, .int .u8 0, .int .u8 0, .int .u8 0, .int .u8 0, .int .u8 0, .int .u8 0, .int .u8 0, .int .u8 0, .int .u8 0, .int .u8 0, .int .u8 0] 5)) 5 1 (ic .u8) (.slice (some ⟨g, 0, none⟩) 16 16) (sixt l fill 0) ∧ Mod (fun _ => False) w (w.alloc (.cells #[(.int .u8 0 : Value), .int .u8 0, .int .u8 0, .int .u8 0, .int .u8 0, .int .u8 0, .int .u8 0, .int .u8 0, .int .u8 0, .int .u8 0, .int .u8 0, .int .u8 0, .int .u8 0, .int .u8 0, .int .u8 0, .int .u8 0] 5))) := hide ⟨hrow, m0⟩
  replace hr := hide hr; replace hl := hide hl; clear hrow m0
  go_enter Tryz.func13, Tryz.ntmps13
  go_wp2_with fail
  rw [← hg]
  replace hg := hide hg
  go_loopw [6] (fun v wr => ∃ k : Nat, k ≤ 16 ∧ v = .int .i64 k ∧ Hid (Row wr 5 1 (ic .u8) (.slice (some ⟨g, 0, none⟩) 16 16) (sixt l fill k) ∧ Mod (fun _ => False) w wr)) (fun v _ => 16 - (intOf v).toNat)
  case atStart => exact ⟨0, by omega, rfl, hP⟩
  case round =>
    obtain ⟨k, hk, rfl, hR⟩ := hrel
    clear hP
    obtain ⟨R, X⟩ := hR.out
    clear hR
    by_cases hlk : k < 16
    · obtain ⟨q1, q2⟩ := R.num k (by rw [sixt_len]; exact hlk)
      have r1 : (0 : Int) ≤ k := by omega
      have r2 : (k : Int) < 16 := by omega
      have S1 := R.store k fill
      have S2 := S1.1.store k (gi l k)
      by_cases hkn : k < n
      · obtain ⟨ad, rfl, hc⟩ := (hr.out.mod X (fun _ _ h => h)).int k hkn
        have hb : (ad.add k).block = ad.block := by unfold Addr.add; split <;> rfl
        have hne : (ad.add k).block ≠ g := fun e => by
          have h1 := World.block_lt_of_cell? w _ ((hr.out.int k hkn).choose_spec.2)
          have h2 := (hr.out.int k hkn).choose_spec.1
          injection h2 with h2
          rw [← h2] at h1
          have := hg.out
          omega
        have hc1 : (wr.setCell ⟨g, k, none⟩ (.int .u8 fill)).cell? (ad.add k) = some (.int .u8 (gi l k)) := S1.2.cell hc hne
        have hrel : sixt l fill (k + 1) = ((sixt l fill k).set k fill).set k (gi l k) := by
          rw [← sixt_set, if_pos (by rw [hl.out]; exact hkn), List.set_set]
        have hE : Hid (Row ((wr.setCell ⟨g, k, none⟩ (.int .u8 fill)).setCell ⟨g, k, none⟩ (.int .u8 (gi l k))) 5 1 (ic .u8) (.slice (some ⟨g, 0, none⟩) 16 16) (sixt l fill (k + 1)) ∧ Mod (fun _ => False) w ((wr.setCell ⟨g, k, none⟩ (.int .u8 fill)).setCell ⟨g, k, none⟩ (.int .u8 (gi l k)))) := hide ⟨by rw [hrel]; exact S2.1, (X.trans S1.2 (fun i hi e => by have := hg.out; omega)).trans S2.2 (fun i hi e => by have := hg.out; omega)⟩
        clear S1 S2 hrel
        replace R := hide R; replace X := hide X
        go_wp2_with fail
        go_roundw
        case rel => exact ⟨k + 1, by omega, by go_num, hE⟩
        case measure => simp [intOf]; omega
      · have hrel : sixt l fill (k + 1) = (sixt l fill k).set k fill := by rw [← sixt_set, if_neg (by rw [hl.out]; exact hkn)]
        have hE : Hid (Row (wr.setCell ⟨g, k, none⟩ (.int .u8 fill)) 5 1 (ic .u8) (.slice (some ⟨g, 0, none⟩) 16 16) (sixt l fill (k + 1)) ∧ Mod (fun _ => False) w (wr.setCell ⟨g, k, none⟩ (.int .u8 fill))) := hide ⟨by rw [hrel]; exact S1.1, X.trans S1.2 (fun i hi e => by have := hg.out; omega)⟩
        clear S1 S2 hrel
        replace R := hide R; replace X := hide X
        go_wp2_with fail
        go_roundw
        case rel => exact ⟨k + 1, by omega, by go_num, hE⟩
        case measure => simp [intOf]; omega
    · obtain rfl : k = 16 := by omega
      have hgw : w.heap.size ≤ g := by have := hg.out; omega
      replace R := hide R; replace X := hide X
      go_wp2_with fail
      go_ret
      exact ⟨g, rfl, R.out, hgw, X.out⟩
theorem sixteen_any (A : Option Addr) (n c : Nat) (l : List Int) (fill : Int) (w : World) (hr : Rd w 1 (ic .u8) A n l) (_hn : n ≤ 1000000000000) :
    Calls Tryz.prog 13 #[.slice A n c, .int .u8 fill] w fun e w' => ∃ g, e = .returned (.slice (some ⟨g, 0, none⟩) 16 16) ∧ Row w' 5 1 (ic .u8) (.slice (some ⟨g, 0, none⟩) 16 16) (sixt l fill 16) ∧ w.heap.size ≤ g ∧ Mod (fun _ => False) w w' :=
  sixteen_all A n c l fill w hr
theorem powK_lone (i : Nat) (h : i < 8) : powK (fun _ => []) 8 i = [10496] := by
  have : i = 0 ∨ i = 1 ∨ i = 2 ∨ i = 3 ∨ i = 4 ∨ i = 5 ∨ i = 6 ∨ i = 7 := by omega
  rcases this with rfl | rfl | rfl | rfl | rfl | rfl | rfl | rfl <;> rfl
/-- The unit behind whole, over a fresh world. -/
def us1 (prot : Int) : US := { us0 prot 0 wx0 with L := told (powK (fun _ => []) 8) 8, bd := 2, sure := true, at_ := -1, gen := 0, done := 1 }
theorem us1_L (prot : Int) (i : Nat) (h : i < 8) : (us1 prot).L i = [] := by
  show told _ 8 i = []
  simp [told, h]
theorem whole_new (B wb : Nat) (prot : Int) (F : Nat → Prop) (w : World) (hW : WU B w wb 0 wx0 F) (hp : 0 ≤ prot ∧ prot ≤ 3) :
    Calls Tryz.prog 8 #[.pointer (some ⟨wb, 0, none⟩), .int .u8 prot] w fun e w' => ∃ c a, e = .returned (.pointer (some ⟨a.u, 0, none⟩)) ∧ a.wb = wb ∧ UN B c w' a (us1 prot) 0 ∧ Mod F w w' ∧ Below B w w' ∧ ∀ k, k < w.heap.size → c k ≠ 0 → F k :=
  whole_in B 0 wb prot wx0 F { us0 prot 0 wx0 with L := powK (fun _ => []) 8, bd := 2, sure := true, at_ := -1, gen := 0, done := 1 } w hW hp (fun a _ => StC.first B a (us0 prot 0 wx0) rfl (by show (0 : Nat) < 90000; decide) rfl rfl) powK_lone rfl
set_option maxHeartbeats 8000000 in
theorem awake_any (w : World) : Calls Tryz.prog 7 #[] w fun e w' => e = .returned (.bool true) ∧ Mod (fun _ => False) w w' := by
  have hnew := wu_new w w.heap.size (Nat.le_refl _)
  have hmk := make6
  replace hnew := hide hnew
  have hB : Hid (Below w.heap.size w w) := hide (Below.refl _ _)
  go_enter Tryz.func7, Tryz.ntmps7
  go_wp2_with (first
    | (go_at_call 9; (with_reducible refine hnew.out.mono ?_); rintro e w1 ⟨b, F, rfl, hW1, hm1, hF1⟩
       have hwh := whole_new w.heap.size b 0 F w1 hW1 (by decide)
       replace hwh := hide hwh; replace hW1 := hide hW1; replace hm1 := hide hm1; replace hF1 := hide hF1)
    | (go_at_call 8; (with_reducible refine hwh.out.mono ?_); rintro e w2 ⟨c, a, rfl, hwb, U, hm2, hb2, hF2⟩
       obtain ⟨u, hu⟩ : ∃ u, u = a.u := ⟨_, rfl⟩
       rw [← hu]
       have ma : Mod (fun _ => False) w2 (w2.alloc (.cells #[(.int .u8 0 : Value), .int .u8 0, .int .u8 0, .int .u8 0, .int .u8 0, .int .u8 0] 5)) := (Mod.refl _ w2).alloc _
       have hdo : Calls Tryz.prog 10 #[_, .int .i64 0, _, _] _ _ := unit_tur w.heap.size c a (us1 0) 0 w2.heap.size 6 (.slice none 0 0) _ (U.keep ma).1 rfl (by decide) (us1_L 0 0 (by decide)) rfl (rd6 w2) (U.sup _ (Nat.le_refl _)) (by omega)
       rw [← hu] at hdo
       replace hu := hide hu; replace hdo := hide hdo; replace U := hide U; replace hm2 := hide hm2; replace hb2 := hide hb2; replace hF2 := hide hF2; replace hwb := hide hwb; replace ma := hide ma)
    | (go_at_call 10; (with_reducible refine hdo.out.mono ?_); rintro e w3 ⟨st, key, code, info, has, A3, n3, c3', D3, c3, a3, S3, rfl, -, -, U3, hu3, X3, rfl, -, -, -, -, -, hwb3, hS3⟩
       have hgd := good_res 0 key code info has A3 n3 c3' w3
       replace hgd := hide hgd; replace U3 := hide U3; replace hu3 := hide hu3; replace X3 := hide X3; replace hwb3 := hide hwb3; replace hS3 := hide hS3)
    | (go_at_call 12; (with_reducible refine hgd.out.mono ?_); rintro e w4 ⟨rfl, hm4⟩
       have hcl := class_any 8 2 (by decide) w4
       replace hcl := hide hcl; replace hm4 := hide hm4)
    | (go_at_call 17; (with_reducible refine hcl.out.mono ?_); rintro e w5 ⟨rfl, rfl⟩))
  go_ret
  refine ⟨rfl, ?_⟩
  have q1 := hm1.out.trans hm2.out (fun i hi e => by have := hF1.out i e; omega)
  have q2 := (q1.trans ma.out (fun i hi e => e.elim)).trans X3.out.mod (fun i hi e => by
    have h1 := hF1.out i (hF2.out i (Nat.lt_of_lt_of_le hi hm1.out.size) e)
    omega)
  exact q2.trans hm4.out (fun i hi e => e)
end Go.Proofs.YtjkpelbhhapebaaGreatDoor
namespace Go.Proofs.YtjkpelbhhapebaaGreatDoor
open Go.RowKit
open W (Nxt)
set_option maxRecDepth 100000
theorem unit_cmp (B : Nat) (c : Nat → Nat) (a : UA) (S : US) (D : Nat → Bl) (n lba ab cap pb pc : Nat) (pl : List Int) (w : World) (h : UN B c w a S 0) (hdn : S.done = 1) (h8 : n < 8) (hD : Wel S D) (hM : S.bd < 80000) (hq : S.L n = []) (hT : S.T.kind = 0) (hsw : S.now.c = false)
    (hl : lba + 1 ≤ 32) (hk : 0 ≤ S.prot ∧ S.prot ≤ 3) (hr : Rd w 1 (ic .u8) (some ⟨ab, 0, none⟩) 16 (onB 137 0 lba 1)) (hab : c ab = 0) (hcap : 16 ≤ cap)
    (hp : Rd w 1 (ic .u8) (some ⟨pb, 0, none⟩) 32 pl) (hpb : c pb = 0) (hnc : 32 ≤ pc) (hcm : pc ≤ maxLen) (hpl : Bytes pl) :
    Calls Tryz.prog 10 #[.pointer (some ⟨a.u, 0, none⟩), .int .i64 n, .slice (some ⟨ab, 0, none⟩) 16 cap, .slice (some ⟨pb, 0, none⟩) 32 pc] w (ResP B c w a.u fun st key code info _ _ a2 S2 => ∃ r M' x', Fd (D lba).d (pl.take 16) r ∧ M' ≤ S.bd + 4 ∧
      (r < 0 → st = 0 ∧ x' = laidX S.x sd lba (tupd S.prot lba (unL (pl.drop 16) 1) 1) (false || !S.cache)) ∧ (0 ≤ r → st = 2 ∧ key = 14 ∧ code = 7424 ∧ info = r ∧ x' = S.x) ∧ a2.wb = a.wb ∧ S2 = { S with x := x', bd := M' }) :=
  do_run B c a S S n ab 16 cap _ (cmB 14 lba 1 false 0 false) _ w h (StC.again B a S hdn) h8 hr (by omega) hab (fun W hr' => parse_cw lba ab cap W (by omega) hr' hcap) 14 2 true rfl (by decide) (by decide) (by decide) (by decide) (by decide) hq
    (fun c' W a' U => conf_free U hT _ _) (fun _ => hsw) _ (fun c' W a' U e1 e2 X => by
      rw [← e1]
      exact (run_dev B c' a' S n (cmB 14 lba 1 false 0 false) _ W U 14 rfl (by decide) _ (fun W2 m => ((U.keep m).1.devcmp D hD (cmB 14 lba 1 false 0 false) pb pc pl hM hl rfl rfl hk rfl ((hp.mod X.mod (fun ad e => by cases e; exact fun hh => hh hpb)).mod m (fun _ _ e => e)) hnc hcm hpl))).mono fun e w' hres => by
        obtain ⟨st, key, code, info, has, A, n', cp, Q, c2, a2, S2, r1, r2, r3, r4, r5, r6, r, M', x', r7, r8, r9, r10, r13, r14⟩ := hres
        exact ⟨st, key, code, info, has, A, n', cp, Q, c2, a2, S2, r1, r2, r3, r4, r5, r6, r, M', x', r7, r8, r9, r10, by rw [r13, e2], r14⟩)
/-- Block 3 as the law writes it. -/
def cell3 (v : Int) : List Int := v :: List.replicate 15 0
theorem sixt_one (v : Int) : sixt [v] 0 16 = cell3 v := rfl
theorem cell3_bytes {v : Int} (h : 0 ≤ v ∧ v ≤ 255) : Bytes (cell3 v) := by
  intro x hx
  simp only [cell3, List.mem_cons, List.mem_replicate] at hx
  rcases hx with rfl | ⟨-, rfl⟩
  · exact h
  · decide
theorem cell3_fd {v s r : Int} (h : Fd (cell3 v) (cell3 s) r) : v = s ∧ r = -1 ∨ v ≠ s ∧ r = 0 := by
  by_cases e : v = s
  · subst e
    exact .inl ⟨rfl, h.uniq (.inl ⟨rfl, fun _ _ => rfl⟩)⟩
  · exact .inr ⟨e, h.uniq (.inr ⟨0, by simp [cell3], rfl, by simpa [cell3, gi] using e, fun j hj => by omega⟩)⟩
theorem empty_ok : OkBl emptyB := ⟨rfl, by intro x hx; rw [List.eq_of_mem_replicate hx]; decide, by decide, by decide, by decide⟩
theorem empty_well (k lba : Int) : WellAt k lba emptyB := .inr (.inl (by simp [escB, emptyB]))
theorem wel0 (prot : Int) : Wel (us1 prot) fun _ => emptyB := ⟨SX.none_ sd, fun _i => ⟨empty_ok, empty_well _ _⟩⟩
theorem cmp_well {S : US} {D : Nat → Bl} (h : Wel S D) (hk : 0 ≤ S.prot ∧ S.prot ≤ 3) (lba : Nat) (hl : lba ≤ 1000) (p : List Int) (hp : Bytes p) (hn : p.length = 16) (du : Bool) (M : Nat) :
    ∃ D2, Wel { S with x := laidX S.x sd lba (tupd S.prot lba (unL p 1) 1) du, bd := M } D2 ∧ (D2 lba).d = p := by
  have hu : ∀ b ∈ unL p 1, OkBl b := by
    intro b hb
    simp only [unL, List.range_one, List.map_cons, List.map_nil, List.mem_cons, List.not_mem_nil, or_false] at hb
    subst hb
    refine ⟨by simp [plainB, hn], ?_, ⟨Int.le_refl _, show (0 : Int) ≤ 65535 by decide⟩, ⟨Int.le_refl _, show (0 : Int) ≤ 65535 by decide⟩, ⟨Int.le_refl _, show (0 : Int) ≤ 4294967295 by decide⟩⟩
    simp only [plainB, Nat.zero_mul, List.drop_zero]
    exact Bytes.take hp _
  have hul : (unL p 1).length = 1 := unL_len p 1
  have htl : (tupd S.prot lba (unL p 1) 1).length = 1 := by rw [tupd_len, hul]
  have hok : ∀ b ∈ tupd S.prot lba (unL p 1) 1, OkBl b := by
    have := tupd_ok S.prot lba (unL p 1) hu ⟨by omega, by omega⟩ (by omega)
    rwa [hul] at this
  refine ⟨layD D lba (tupd S.prot lba (unL p 1) 1) (tupd S.prot lba (unL p 1) 1).length, ⟨h.1.laid lba _ hok du, fun i => ?_⟩, ?_⟩
  · rw [layD_at, htl]
    by_cases hi : lba ≤ i ∧ i < lba + 1
    · obtain rfl : i = lba := by omega
      rw [if_pos hi, Nat.sub_self]
      refine ⟨hok _ (by rw [gi_eq _ 0 (by omega)]; exact List.getElem_mem _), ?_⟩
      have := tupd_well S.prot i (unL p 1) hk 0 (by omega)
      rw [hul] at this
      simpa using this
    · rw [if_neg hi]
      exact h.2 i
  · rw [layD_at, htl, if_pos ⟨Nat.le_refl _, by omega⟩, Nat.sub_self, tupd_gi _ _ _ _ _ (by omega) (by omega), unL_get _ _ _ (by omega)]
    simp [withT, plainB, ← hn]
end Go.Proofs.YtjkpelbhhapebaaGreatDoor
namespace Go.Proofs.YtjkpelbhhapebaaGreatDoor
open Go.RowKit
open W (Nxt)
set_option maxRecDepth 100000
abbrev z8 : Array Value := #[(.int .u8 0 : Value), .int .u8 0, .int .u8 0, .int .u8 0, .int .u8 0, .int .u8 0, .int .u8 0, .int .u8 0]
theorem new28 : New 28 z8 := fun w => by kernel_rfl
/-- What stands between two steps of a turn: what is seen, what block 3 begins with, how much was done. -/
def CI (B u g : Nat) (sl : List Int) (v : Int) (bd : Nat) (w0 w : World) : Prop := ∃ c a S D, UN B c w a S 0 ∧ a.u = u ∧ S.prot = 1 ∧ S.done = 1 ∧ (∀ j, j < 8 → S.L j = []) ∧ S.T.kind = 0 ∧ S.now.c = false ∧ Wel S D ∧ (D 3).d = cell3 v ∧ S.bd ≤ bd ∧ c g = 0 ∧ B ≤ g ∧
  Row w 28 1 (ic .u8) (.slice (some ⟨g, 0, none⟩) 8 8) sl ∧ sl.length = 8 ∧ Bytes sl ∧ Below B w0 w ∧ B ≤ w.heap.size
section
variable {B u g : Nat} {sl : List Int} {v : Int} {bd : Nat} {w0 w W : World}
theorem CI.bel (h : CI B u g sl v bd w0 w) : Below B w0 w := by
  obtain ⟨c, a, S, D, h1, h2, h3, h4, h5, h6, h7, h8, h9, h10, h11, h12, h13, h14, h15, h16, h17⟩ := h
  exact h16
theorem CI.keep (h : CI B u g sl v bd w0 w) (m : Mod (fun _ => False) w W) : CI B u g sl v bd w0 W := by
  obtain ⟨c, a, S, D, h1, h2, h3, h4, h5, h6, h7, h8, h9, h10, h11, h12, h13, h14, h15, h16, h17⟩ := h
  exact ⟨c, a, S, D, (h1.keep m).1, h2, h3, h4, h5, h6, h7, h8, h9, h10, h11, h12, h13.mod m (fun _ _ e => e), h14, h15, h16.trans (m.below h17 (fun _ h => h.elim)), Nat.le_trans h17 m.size⟩
theorem CI.seen (h : CI B u g sl v bd w0 w) (n : Nat) (_h8 : n < 8) (x : Int) (hx : 0 ≤ x ∧ x ≤ 255) : CI B u g (sl.set n x) v bd w0 (w.setCell ⟨g, n, none⟩ (.int .u8 x)) := by
  obtain ⟨c, a, S, D, h1, h2, h3, h4, h5, h6, h7, h8, h9, h10, h11, h12, h13, h14, h15, h16, h17⟩ := h
  obtain ⟨q1, q2⟩ := h13.store n x
  refine ⟨c, a, S, D, h1.mod q2 (fun k e => by rw [e]; exact h11), h2, h3, h4, h5, h6, h7, h8, h9, h10, h11, h12, q1, by simpa using h14, fun y hy => ?_, h16.trans (q2.below h17 (fun k e => by rw [e]; exact h12)), Nat.le_trans h17 q2.size⟩
  rcases List.mem_or_eq_of_mem_set hy with hy | rfl
  · exact h15 y hy
  · exact hx
theorem CI.at_ (h : CI B u g sl v bd w0 w) (n : Nat) (h8 : n < 8) : w.cell? ⟨g, n, none⟩ = some (.int .u8 (gi sl n)) ∧ w.frozen? ⟨g, n, none⟩ = false ∧ 0 ≤ gi sl n ∧ gi sl n ≤ 255 := by
  obtain ⟨c, a, S, D, h1, h2, h3, h4, h5, h6, h7, -, h9, h10, h11, h12, h13, h14, h15, h16, h17⟩ := h
  obtain ⟨q1, q2⟩ := h13.num n (by omega)
  have := h15 (gi sl n) (by rw [gi_eq sl n (by omega)]; exact List.getElem_mem _)
  exact ⟨q1, q2, this.1, this.2⟩
theorem packL_lone (b : Bl) : packL ((0 : Int) != 0) [b] = b.d := by
  simp [packL, packB]
theorem flag0 : FlagOk 0 0 false := ⟨by kernel_rfl, by decide, by kernel_rfl, by decide, by decide⟩
theorem CI.read (h : CI B u g sl v bd w0 w) (hbd : bd < 80000) (n ab : Nat) (h8 : n < 8) (m : Mod (fun _ => False) w W) (hr : Rd W 1 (ic .u8) (some ⟨ab, 0, none⟩) 16 (onB 136 0 3 1)) (hab : w.heap.size ≤ ab) :
    Calls Tryz.prog 10 #[.pointer (some ⟨u, 0, none⟩), .int .i64 n, .slice (some ⟨ab, 0, none⟩) 16 16, .slice none 0 0] W fun e w' => ∃ A cp, e = .returned (rsA 0 0 0 0 false (.slice A 16 cp)) ∧ Row w' 5 1 (ic .u8) (.slice A 16 cp) (cell3 v) ∧ CI B u g sl v (bd + 1) w0 w' := by
  obtain ⟨c, a, S, D, h1, rfl, h3, h4, h5, h6, h7, hW, h9, h10, h11, h12, h13, h14, h15, h16, h17⟩ := h
  have hk := h1.keep m
  refine (unit_read B c a S D n 3 1 ab 16 0 0 false (.slice none 0 0) W hk.1 h4 h8 hW (by omega) (h5 n h8) h6 flag0 (by decide) (by rw [h3]; decide) ⟨Int.le_refl _, .inl rfl⟩ hr (h1.sup ab hab) (by decide)).mono ?_
  rintro e w' ⟨st, key, code, info, has, A, n', cp, Q, c2, a2, S2, rfl, hrow, -, U2, hu2, X2, rfl, rfl, rfl, rfl, rfl, rfl, -, rfl⟩
  have e : packL ((0 : Int) != 0) ((List.range 1).map fun i => D (3 + i)) = cell3 v := by
    rw [← h9]
    exact packL_lone _
  rw [e] at hrow
  have hn : n' = 16 := (hrow.rd (ic_len .u8) rfl).1.symm
  subst hn
  have s1 : g < w.heap.size := by
    have := World.block_lt_of_cell? w _ (h13.num 0 (by omega)).1
    exact this
  have sW := m.size
  exact ⟨A, cp, rfl, hrow, c2, a2, _, D, U2, hu2, h3, h4, h5, h6, h7, hW, h9, by show S.bd + 1 ≤ _; omega, by rw [X2.col g (by omega)]; exact h11, h12, (h13.mod m (fun _ _ e => e)).mod X2.mod (fun k hk e => by cases hk; exact e h11), h14, h15,
    (h16.trans (m.below h17 (fun _ h => h.elim))).trans X2.bel, Nat.le_trans h17 (Nat.le_trans m.size X2.mod.size)⟩
theorem CI.cmp (h : CI B u g sl v bd w0 w) (hbd : bd < 80000) (n ab pb pc : Nat) (s t : Int) (h8 : n < 8) (m : Mod (fun _ => False) w W) (hr : Rd W 1 (ic .u8) (some ⟨ab, 0, none⟩) 16 (onB 137 0 3 1)) (hab : w.heap.size ≤ ab) (hs : 0 ≤ s ∧ s ≤ 255) (ht : 0 ≤ t ∧ t ≤ 255)
    (hp : Rd W 1 (ic .u8) (some ⟨pb, 0, none⟩) 32 (cell3 s ++ cell3 t)) (hpb : w.heap.size ≤ pb) (hnc : 32 ≤ pc) (hcm : pc ≤ maxLen) :
    Calls Tryz.prog 10 #[.pointer (some ⟨u, 0, none⟩), .int .i64 n, .slice (some ⟨ab, 0, none⟩) 16 16, .slice (some ⟨pb, 0, none⟩) 32 pc] W fun e w' => ∃ st key code info has A n' cp, e = .returned (rsA st key code info has (.slice A n' cp)) ∧ (v = s → st = 0 ∧ CI B u g sl t (bd + 4) w0 w') ∧ (v ≠ s → st = 2 ∧ key = 14 ∧ info = 0 ∧ CI B u g sl v (bd + 4) w0 w') := by
  obtain ⟨c, a, S, D, h1, rfl, h3, h4, h5, h6, h7, hW, h9, h10, h11, h12, h13, h14, h15, h16, h17⟩ := h
  have hk := h1.keep m
  have hpl : Bytes (cell3 s ++ cell3 t) := Bytes.append (cell3_bytes hs) (cell3_bytes ht)
  refine (unit_cmp B c a S D n 3 ab 16 pb pc (cell3 s ++ cell3 t) W hk.1 h4 h8 hW (by omega) (h5 n h8) h6 h7 (by decide) (by rw [h3]; decide) hr (h1.sup ab hab) (by decide) hp (h1.sup pb hpb) hnc hcm hpl).mono ?_
  rintro e w' ⟨st, key, code, info, has, A, n', cp, Q, c2, a2, S2, rfl, -, -, U2, hu2, X2, r, M', x', hfd, hM', hlo, hhi, -, hS2⟩
  have t1 : (cell3 s ++ cell3 t).take 16 = cell3 s := rfl
  have t2 : (cell3 s ++ cell3 t).drop 16 = cell3 t := rfl
  rw [h9, t1] at hfd
  rw [t2] at hlo
  have s1 : g < w.heap.size := World.block_lt_of_cell? w _ (h13.num 0 (by omega)).1
  have sW := m.size
  have k1 : c2 g = 0 := by rw [X2.col g (by omega)]; exact h11
  have k2 := (h13.mod m (fun _ _ e => e)).mod X2.mod (fun k hk e => by cases hk; exact e h11)
  have k3 := (h16.trans (m.below h17 (fun _ h => h.elim))).trans X2.bel
  have k4 := Nat.le_trans h17 (Nat.le_trans m.size X2.mod.size)
  refine ⟨st, key, code, info, has, A, n', cp, rfl, fun e => ?_, fun e => ?_⟩
  · rcases cell3_fd hfd with ⟨-, rfl⟩ | ⟨e', -⟩
    · obtain ⟨r1, rfl⟩ := hlo (by decide)
      obtain ⟨D2, q1, q2⟩ := cmp_well hW (by rw [h3]; decide) 3 (by decide) (cell3 t) (cell3_bytes ht) rfl (false || !S.cache) M'
      exact ⟨r1, c2, a2, S2, D2, U2, hu2, by rw [hS2]; exact h3, by rw [hS2]; exact h4, by rw [hS2]; exact h5, by rw [hS2]; exact h6, by rw [hS2]; exact h7, by rw [hS2]; exact q1, q2, by rw [hS2]; show M' ≤ _; omega, k1, h12, k2, h14, h15, k3, k4⟩
    · exact absurd e e'
  · rcases cell3_fd hfd with ⟨e', -⟩ | ⟨-, rfl⟩
    · exact absurd e' e
    · obtain ⟨r1, r2, -, r3, rfl⟩ := hhi (by decide)
      exact ⟨r1, r2, r3, c2, a2, S2, D, U2, hu2, by rw [hS2]; exact h3, by rw [hS2]; exact h4, by rw [hS2]; exact h5, by rw [hS2]; exact h6, by rw [hS2]; exact h7, by rw [hS2]; exact hW, h9, by rw [hS2]; show M' ≤ _; omega, k1, h12, k2, h14, h15, k3, k4⟩
theorem CI.mono (h : CI B u g sl v bd w0 w) {bd' : Nat} (hb : bd ≤ bd') : CI B u g sl v bd' w0 w := by
  obtain ⟨c, a, S, D, h1, h2, h3, h4, h5, h6, h7, h8, h9, h10, h11, h12, h13, h14, h15, h16, h17⟩ := h
  exact ⟨c, a, S, D, h1, h2, h3, h4, h5, h6, h7, h8, h9, Nat.le_trans h10 hb, h11, h12, h13, h14, h15, h16, h17⟩
theorem box_cells {cs : Array Value} {t : TypeId} (h : w.heap[g]? = some (.cells cs t (0, 0))) (j : Nat) (x : Value) (hx : cs.toList[j]? = some x) : w.cell? ((⟨g, 0, none⟩ : Addr).add j) = some x := by
  have e : (⟨g, 0, none⟩ : Addr).add j = ⟨g, j, none⟩ := by simp [Addr.add]; rintro rfl; rfl
  rw [e, cell_of_row w g j _ _ _ h, ← Array.getElem?_toList]
  exact hx
end
theorem sixt_box (W : World) (b : Nat) (y : Int) (h : W.heap[b]? = some (.cells #[.int .u8 y] 5 (0, 0))) : Calls Tryz.prog 13 #[.slice (some ⟨b, 0, none⟩) 1 1, .int .u8 0] W fun e w' => ∃ g, e = .returned (.slice (some ⟨g, 0, none⟩) 16 16) ∧ Row w' 5 1 (ic .u8) (.slice (some ⟨g, 0, none⟩) 16 16) (cell3 y) ∧ W.heap.size ≤ g ∧ Mod (fun _ => False) W w' :=
  sixteen_any (some ⟨b, 0, none⟩) 1 1 [y] 0 W (rd_block (k := .u8) (l := [y]) h rfl) (by decide)
theorem pay {w : World} {e : TypeId} {v : Value} {s t : Int} (h : Row w e 1 (ic .u8) v (cell3 s ++ cell3 t)) : ∃ g c, v = .slice (some ⟨g, 0, none⟩) 32 c ∧ 32 ≤ c ∧ c ≤ maxLen := by
  rcases h.2 with ⟨_, h0⟩ | ⟨g, cap, cur, rfl, _, hh, h1, h2, _⟩
  · simp [cell3] at h0
  · exact ⟨g, cap, rfl, h1, h2⟩
theorem bx_drew {w : World} {b : Nat} {o : Obj} (h : w.heap[b]? = some o) : w.drew.heap[b]? = some o := h
theorem bx_new {w : World} {b : Nat} {o : Obj} (h : b = w.heap.size) : (w.alloc o).heap[b]? = some o := by rw [h]; exact heap_alloc_new w o
theorem bx_alloc {w : World} {b : Nat} {o o' : Obj} (h : w.heap[b]? = some o) : (w.alloc o').heap[b]? = some o := ((Mod.refl (fun _ => False) w).alloc o').heap h (fun h => h)
theorem bx_size (w : World) : w.drew.heap.size = w.heap.size := rfl
theorem heap_lo {w : World} {o1 o2 : Obj} : ((w.alloc o1).alloc o2).heap[w.heap.size]? = some o1 := ((Mod.refl (fun _ => False) (w.alloc o1)).alloc o2).heap (heap_alloc_new w o1) (fun h => h)
end Go.Proofs.YtjkpelbhhapebaaGreatDoor
