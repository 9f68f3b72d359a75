/-
  Unit.out (PERSISTENT RESERVE OUT), walked. Conditions: 24 bytes of parameters with no odd bit, aptpl not asked; the table as the unit lets it be. Unit.out, the walk. Conditions: as stated. Parse with a service; REQUEST SENSE and PERSISTENT RESERVE OUT, parsed. Conditions: as stated. Do of a command that is free, walked. Conditions: as stated. Unit.run of REQUEST SENSE and of PERSISTENT RESERVE OUT, walked; both from the nexus's side. Conditions: as stated. A turn of TopReserves, in steps. Conditions: as stated. Laws of one operation by itself: a variable of its own is made, a struct is stored whole. Conditions: as stated.
-/
import Derived.Test.YtjkpelbhhapebaaGreatDoorTDo
import Derived.Test.YtjkpelbhhapebaaGreatDoorTPreL
import Derived.BigRegion
namespace Go.Proofs.YtjkpelbhhapebaaGreatDoor
open Go.RowKit
open W (Nxt)
set_option maxRecDepth 100000
section
variable {P : Program} {w : World} {ops : Array Oper} {rest : List Oper} {o : Oper} {a : Act} {Q : Exit → Act → World → Prop}
/-- A struct is stored whole, in the midst of a block. -/
theorem list_mid (T T2 : TypeId) (x y : Operand) (ho : o.op = .store T2 x y) (hg : o.guard = none) (b off : Nat) (cells : Array Value) (hx : a.eval x = .pointer (some ⟨b, off, none⟩)) (hy : a.eval y = .agg cells)
    (zs out : Array Value) (hh : w.heap[b]? = some (.cells zs T (0, 0))) (hsz : off + cells.size ≤ zs.size) (hos : out.size = zs.size) (hout : ∀ j, j < zs.size → out[j]? = if off ≤ j ∧ j < off + cells.size then cells[j - off]? else zs[j]?)
    (hi : (P.info? T2).map (·.size) = some cells.size) (h1 : cells.all (·.oneCell') = true)
    (h : ∀ w', w'.heap[b]? = some (.cells out T (0, 0)) → Mod (fun k => k = b) w w' → wpList P ops Q rest (a.put o.dst undef) w') : wpList P ops Q (o :: rest) a w := by
  refine wpList_store_mid hg T2 x y ho b off cells hx hy (fun j hj => ?_) hi h1 ?_
  · refine ⟨?_, frozen_of_row w b _ zs T hh⟩
    rw [cell_of_row w b (off + j) zs T (0, 0) hh, Array.getElem?_eq_getElem (by omega)]
    rfl
  · obtain ⟨cs', k1, k2, k3, k4, k5⟩ := setCells_heap b T cells.toList off w zs hh
    have e : cs' = out := by
      apply Array.ext_getElem?
      intro i
      by_cases hi : i < zs.size
      · rw [hout i hi]
        by_cases hc : off ≤ i ∧ i < off + cells.size
        · rw [if_pos hc, k3 i hc.1 (by simpa using hc.2) hi]
          simp
        · rw [if_neg hc, k4 i (by simp; omega)]
      · rw [Array.getElem?_eq_none (by omega), Array.getElem?_eq_none (by omega)]
    rw [e] at k1
    exact h _ k1 k5
end
section
variable {B : Nat} {c : Nat → Nat} {w w' : World} {a : UA} {S : US} {mu : Int}
/-- The table's part has turned. -/
theorem UN.table (h : UN B c w a S mu) {F : Nat → Prop} (hF : ∀ k, F k → c k = 3 ∧ B ≤ k ∧ k < w.heap.size) (T' : Tb) (hT : TBL w' a.tb T' (Plus F w w')) (hm : Mod F w w') :
    ∃ c', UN B c' w' a { S with T := T' } mu ∧ UX B c c' w w' ∧ ∀ k, Plus F w w' k → c' k = 3 := by
  have hF2 : ∀ k, F k → c k = 3 := fun k hk => (hF k hk).1
  obtain ⟨c', c1, c2, c3⟩ := colour c w.heap.size 3 F (Plus F w w') hF2 (fun k hk hp => by
    rcases hp with hp | ⟨hp, -⟩
    · exact hp
    · omega)
  obtain ⟨r1, r2, -, r4, r5, r6, r7, r8⟩ := h.rest hm 3 hF2 c1
  have hs := hm.size
  have hb := h.big
  refine ⟨c', ⟨r1 (by decide), r2 (by decide), ⟨Plus F w w', hT, fun k hk => ⟨c2 k hk, ?_⟩⟩, r4 (by decide), r5 (by decide), r6 (by decide), r7 (by decide), r8 (by decide), fun k hk => c3 k (Nat.le_trans hs hk) (fun hp => ?_), Nat.le_trans hb hs⟩, UX.of hm hF2 (by decide) (hm.below hb fun k hk => (hF k hk).2.1) c1, c2⟩
  · rcases hk with hk | ⟨h1, h2⟩
    · exact ⟨(hF k hk).2.1, Nat.lt_of_lt_of_le (hF k hk).2.2 hs⟩
    · exact ⟨by omega, h2⟩
  · rcases hp with hp | ⟨-, h2⟩
    · have := (hF k hp).2.2; omega
    · omega
theorem UN.add2 (h : UN B c w a S mu) (n x : Int) (h0 : 0 ≤ n) (h8 : n < 8) (hx : A.U16 x) :
    Calls Tryz.prog 69 #[.pointer (some ⟨a.qb, 0, none⟩), .int .i64 n, .int .u16 x] w fun e w' => ∃ c' F, e = .returned (.tuple #[]) ∧ UN B c' w' a { S with L := A.put S.L n.toNat (A.addL (S.L n.toNat) x) } mu ∧ UX B c c' w w' ∧ Mod F w w' ∧ ∀ k, F k → c k = 2 := by
  obtain ⟨F, hQ, hF⟩ := h.qu
  exact (A.add_some a.qb n x S.L F w h0 h8 hx hQ).mono fun e w' ⟨e1, e2, e3⟩ => by
    obtain ⟨c', q1, q2⟩ := h.queue hF _ e2 e3
    exact ⟨c', F, e1, q1, q2, e3, fun k hk => (hF k hk).1⟩
/-- The table's Do, from the unit's side. -/
theorem UN.tdo (h : UN B c w a S mu) (n sv ty key act : Int) (N : Nat) (hk : TOk N S.T) (hN : N ≤ 900) (hn8 : 0 ≤ n ∧ n < 8) (hsv : 0 ≤ sv ∧ sv ≤ 6) :
    Calls Tryz.prog 92 #[.pointer (some ⟨a.tb, 0, none⟩), .int .i64 n, .agg (outA sv ty key act)] w fun e w' => ∃ c' st code A m cp evs T' F, e = .returned (.tuple #[.int .u8 st, .int .u16 code, .slice A m cp]) ∧ (st = 0 ∨ st = 2 ∨ st = 24) ∧ Row w' 201 2 encE (.slice A m cp) evs ∧ EvL evs ∧ evs.length ≤ 2 * N + 2 ∧
      (∀ b, (Value.slice A m cp).ownBlock = some b → c' b = 3) ∧ UN B c' w' a { S with T := T' } mu ∧ UX B c c' w w' ∧ TOk (N + 1) T' ∧ Mod F w w' ∧ ∀ k, F k → c k = 3 := by
  obtain ⟨F, ⟨v, h1, h2, h3, h4, h5⟩, hF⟩ := h.tbl
  exact (tdo_any a.tb n sv ty key act v S.T N w ⟨h1, h2, h3⟩ hk hN hn8 hsv).mono fun e w' ⟨st, code, A, m, cp, e1, e2, evs, v', T', q1, q2, q3, q4, q5, q6, q7, q8⟩ => by
    have hm : Mod F w w' := q8.mono (fun k _ e => by rw [e]; exact h4)
    have hlt := q1.lt
    obtain ⟨c', r1, r2, r3⟩ := h.table hF T' ⟨v', q5.1, q5.2.1, q5.2.2, .inl h4, fun k hk => by
      rcases q6 k hk with q | q
      · exact .inl (h5 k q)
      · exact .inr ⟨q, q5.2.1.lt k hk⟩⟩ hm
    exact ⟨c', st, code, A, m, cp, evs, T', F, e1, e2, q1, q2, q3, fun b hb => r3 b (.inr ⟨q4 b hb, hlt b hb⟩), r1, r2, q7, hm, fun k hk => (hF k hk).1⟩
end
abbrev z43 : Array Value := #[(.int .u8 0 : Value), .int .u8 0, .int .u64 0, .int .u64 0, .bool false]
abbrev z201 : Array Value := #[(.int .i64 0 : Value), .int .u16 0]
theorem new201 : New 201 z201 := fun w => by kernel_rfl
theorem size201 : (Tryz.prog.info? 201).map (·.size) = some 2 := by kernel_rfl
theorem ev_one (r : Ev) : (encE r).toArray.all (·.oneCell') = true := all_oneCell_toArray (cs := encE r) (encE_one r)
/-- PERSISTENT RESERVE OUT, parsed. -/
def cmP (sv ty : Int) : Cm := ⟨16, false, 0, 0, 24, false, 0, false, false, 0, 0, false, sv, ty, false⟩
def maskL : List Int := [255, 255, 255, 255, 255, 255, 255, 255, 255, 255, 255, 255, 255, 255, 255, 255, 0, 0, 0, 0, 1]
end Go.Proofs.YtjkpelbhhapebaaGreatDoor
namespace Go.Proofs.YtjkpelbhhapebaaGreatDoor
open Go.RowKit
set_option maxRecDepth 100000
theorem mid35 (code : Int) : ∀ j, j < (rcA 2 0 0 0 false (.slice none 0 0)).size → (rcA 2 5 code 0 false (.slice none 0 0))[j]? = if 1 ≤ j ∧ j < 1 + (seA 5 code 0 false).size then (seA 5 code 0 false)[j - 1]? else (rcA 2 0 0 0 false (.slice none 0 0))[j]? := by
  intro j hj
  simp only [List.size_toArray, List.length_cons, List.length_nil] at hj
  rcases (by omega : j = 0 ∨ j = 1 ∨ j = 2 ∨ j = 3 ∨ j = 4 ∨ j = 5 ∨ j = 6 ∨ j = 7 ∨ j = 8 ∨ j = 9) with rfl | rfl | rfl | rfl | rfl | rfl | rfl | rfl | rfl | rfl <;> rfl
set_option maxHeartbeats 8000000 in
theorem out_any (B : Nat) (c : Nat → Nat) (a : UA) (S : US) (n : Nat) (sv ty : Int) (pb pc N : Nat) (pl : List Int) (w : World) (h : UN B c w a S 0) (h8 : n < 8) (hsv : 0 ≤ sv ∧ sv ≤ 6) (hk : TOk N S.T) (hN : N ≤ 900)
    (hp : Rd w 1 (ic .u8) (some ⟨pb, 0, none⟩) 24 pl) (hpc : 24 ≤ pc) (hb : Bytes pl) (hodd : ∀ i, i < 24 → oddB pl maskL i = 0) (h20 : gi pl 20 = 0) (_hpb : c pb = 0) :
    Calls Tryz.prog 61 #[.pointer (some ⟨a.u, 0, none⟩), .int .i64 n, .agg (cmA (cmP sv ty)), .slice (some ⟨pb, 0, none⟩) 24 pc] w (ResP B c w a.u fun _ _ _ _ _ _ a2 S2 => a2.wb = a.wb ∧ ∃ L' T', S2 = { S with L := L', T := T' } ∧ TOk (N + 1) T') := by
  obtain ⟨u, hu⟩ : ∃ u, u = a.u := ⟨_, rfl⟩
  have hult : u < w.heap.size := by rw [hu]; exact h.ult
  rw [← hu]
  have hlow := hk.low
  replace h := hide h; replace hu := hide hu; replace hp := hide hp; replace hb := hide hb; replace hodd := hide hodd; replace h20 := hide h20; replace hk := hide hk; replace hlow := hide hlow
  go_enter Tryz.func61, Tryz.ntmps61
  go_wp2_with (first
    | (refine list_box 104 (.tmp 2) rfl rfl (cmA (cmP sv ty)) rfl ?_
       intro w1 g hg hcm1 m1 hz
       have hcm1 : CM w1 g (cmP sv ty) := hcm1
       replace hcm1 := hide hcm1; replace m1 := hide m1; replace hz := hide hz; replace hg := hide hg)
    | (refine list_al 35 _ new35' rfl rfl ?_
       intro w2 g8 hg8 h82 m2 hz2
       have m02 : Mod (fun _ => False) w w2 := m1.out.trans m2 (fun _ _ h => h)
       have hcm2 : CM w2 g (cmP sv ty) := hcm1.out.mod m2 (fun h => h)
       have k4 : w2.cell? ⟨g, 4, none⟩ = some (.int .i64 24) := hcm2.at_ 4
       have hp2 := hp.out.mod m02 (fun _ _ e => e)
       replace hg8 := hide hg8; replace h82 := hide h82; replace m2 := hide m2; replace hz2 := hide hz2; replace m02 := hide m02; replace hcm2 := hide hcm2; replace hp2 := hide hp2)
    | (go_at_call 46; (with_reducible refine (odd_none (some ⟨pb, 0, none⟩) (some ⟨w2.heap.size, 0, none⟩) 24 pc 21 21 pl maskL _ ?_ ?_ ?_ ?_ hodd.out).mono ?_)
       exact hp2.out.alloc _
       exact rd_block (k := .u8) (l := maskL) (heap_alloc_new w2 _) rfl
       decide
       decide
       rintro e w3 ⟨rfl, rfl⟩))
  obtain ⟨W3, hW3⟩ : ∃ W3, W3 = w2.alloc (.cells #[(.int .u8 255 : Value), .int .u8 255, .int .u8 255, .int .u8 255, .int .u8 255, .int .u8 255, .int .u8 255, .int .u8 255, .int .u8 255, .int .u8 255, .int .u8 255, .int .u8 255, .int .u8 255, .int .u8 255, .int .u8 255, .int .u8 255, .int .u8 0, .int .u8 0, .int .u8 0, .int .u8 0, .int .u8 1] 5) := ⟨_, rfl⟩
  have m23 : Mod (fun _ => False) w2 W3 := by rw [hW3]; exact (Mod.refl _ w2).alloc _
  rw [← hW3]
  clear hW3
  have m03 := m02.out.trans m23 (fun _ _ e => e)
  have hcm3 := hcm2.out.mod m23 (fun h => h)
  have k12 : W3.cell? ⟨g, 12, none⟩ = some (.int .u8 sv) := hcm3.at_ 12
  have k13 : W3.cell? ⟨g, 13, none⟩ = some (.int .u8 ty) := hcm3.at_ 13
  have q20 := rd_at (hp2.out.mod m23 (fun _ _ e => e)) 20 (by decide)
  rw [h20.out] at q20
  have hg2 : g8 < w2.heap.size := (Array.getElem?_eq_some_iff.1 h82.out).1
  have lpb : pb < W3.heap.size := World.block_lt_of_cell? W3 _ q20
  have lg : g < W3.heap.size := World.block_lt_of_cell? W3 _ k12
  obtain ⟨g12, hg12⟩ : ∃ g12, g12 = W3.heap.size := ⟨_, rfl⟩
  replace hg12 := hide hg12
  replace m03 := hide m03; replace hcm3 := hide hcm3; replace m23 := hide m23
  go_region
  obtain ⟨W4, hW4⟩ : ∃ W4, W4 = (W3.alloc (.cells #[(.int .u8 sv : Value), .int .u8 ty, .int .u64 0, .int .u64 0, .bool false] 43)).drew := ⟨_, rfl⟩
  have m34 : Mod (fun _ => False) W3 W4 := by rw [hW4]; exact ((Mod.refl _ W3).alloc _).drew
  have h4 : W4.heap[g12]? = some (.cells (outA sv ty 0 0) 43 (0, 0)) := by rw [hW4, hg12.out]; exact heap_alloc_new W3 _
  rw [← hW4, ← hg12.out]
  clear hW4
  obtain ⟨key, hkey⟩ : ∃ key, key = val ((pl.drop 0).take 8) := ⟨_, rfl⟩
  obtain ⟨act, hact⟩ : ∃ act, act = val ((pl.drop 8).take 8) := ⟨_, rfl⟩
  have hget0 : ∀ W, Rd W 1 (ic .u8) (some ⟨pb, 0, none⟩) 24 pl → Calls Tryz.prog 90 #[.slice (some ⟨pb, 0, none⟩) 24 pc, .int .i64 0, .int .i64 8] W fun e w' => e = .returned (.tuple #[.int .u64 key, .int .i64 0]) ∧ W = w' := fun W hr => by
    rw [hkey]; exact get_any ⟨pb, 0, none⟩ 24 pc 0 8 pl W hr hb.out (by decide) (by decide) (by decide) hpc (by decide)
  have hget8 : ∀ W, Rd W 1 (ic .u8) (some ⟨pb, 0, none⟩) 24 pl → Calls Tryz.prog 90 #[.slice (some ⟨pb, 0, none⟩) 24 pc, .int .i64 8, .int .i64 8] W fun e w' => e = .returned (.tuple #[.int .u64 act, .int .i64 0]) ∧ W = w' := fun W hr => by
    rw [hact]; exact get_any ⟨pb, 0, none⟩ 24 pc 8 8 pl W hr hb.out (by decide) (by decide) (by decide) hpc (by decide)
  have m24 := m23.out.trans m34 (fun _ _ e => e)
  have m04 := m02.out.trans m24 (fun _ _ e => e)
  have hp4 := hp2.out.mod m24 (fun _ _ e => e)
  obtain ⟨y0, y1, y2, y3, y4⟩ := outA_cells h4
  have z2 := frozen_of_row W4 g12 2 _ 43 h4
  have z3 := frozen_of_row W4 g12 3 _ 43 h4
  have U4 := h.out.keep m04
  obtain ⟨-, -, -, d8, d9, -, -, -, -⟩ := U4.1.cells
  rw [← hu.out] at d8 d9
  have hug : ¬ u = g12 := by have := m03.out.size; have := hg12.out; omega
  have hpg : ¬ pb = g12 := by have := hg12.out; omega
  have h6 : ((W4.setCell ⟨g12, 2, none⟩ (.int .u64 key)).setCell ⟨g12, 3, none⟩ (.int .u64 act)).heap[g12]? = some (.cells (outA sv ty key act) 43 (0, 0)) := by
    rw [heap_setCell_same _ g12 3 _ 43 _ (heap_setCell_same W4 g12 2 _ 43 _ h4)]; rfl
  have hlast : ∀ W, Mod (fun k => k = g12) W4 W → UN B c W a S 0 ∧ Calls Tryz.prog 91 #[.pointer (some ⟨a.tb, 0, none⟩)] W fun e w' => e = .returned (.bool false) ∧ Mod (fun _ => False) W w' := fun W m => by
    have q := U4.1.mod m (fun k e => by rw [e, hg12.out]; exact h.out.sup _ m03.out.size)
    refine ⟨q, ?_⟩
    obtain ⟨F, ⟨v, hT, -⟩, -⟩ := q.tbl
    have := lasts_any a.tb v S.T W hT
    rwa [hlow.out] at this
  have hM6 : Mod (fun k => k = g12) W4 ((W4.setCell ⟨g12, 2, none⟩ (.int .u64 key)).setCell ⟨g12, 3, none⟩ (.int .u64 act)) := mod_s (mod_s (Mod.refl _ _))
  clear lpb lg k12 k13 q20
  replace hkey := hide hkey; replace hact := hide hact; replace hget0 := hide hget0; replace hget8 := hide hget8; replace hp4 := hide hp4; replace h4 := hide h4; replace U4 := hide U4; replace h6 := hide h6; replace hlast := hide hlast; replace m34 := hide m34; replace m24 := hide m24; replace m04 := hide m04; replace hM6 := hide hM6
  go_wp2_with (first
    | (go_at_call 90; (with_reducible refine (hget0.out _ ?_).mono ?_); (with_reducible exact hp4.out); rintro e w' ⟨rfl, rfl⟩)
    | (go_at_call 90; (with_reducible refine (hget8.out _ ?_).mono ?_); exact hp4.out.mod (mod_s (Mod.refl (fun k => k = g12) W4)) (fun ad e => by cases e; exact hpg); rintro e w' ⟨rfl, rfl⟩)
    | (go_at_call 91; (with_reducible refine (hlast.out _ hM6.out).2.mono ?_); rintro e w7 ⟨rfl, m7⟩
       have U7 := (hlast.out _ hM6.out).1.keep m7
       have h7 := m7.heap h6.out (fun e => e)
       have M47 : Mod (fun k => k = g12) W4 w7 := hM6.out.trans m7 (fun _ _ e => e.elim)
       obtain ⟨-, -, -, d87, d97, -, -, -, -⟩ := U7.1.cells
       rw [← hu.out] at d87 d97
       obtain ⟨x0, x1, x2, x3, x4⟩ := outA_cells h7
       replace m7 := hide m7; replace U7 := hide U7; replace h7 := hide h7; replace M47 := hide M47))
  have hS : ∀ W, Mod (fun _ => False) w7 W → W.cell? ⟨u, 8, none⟩ = some (.pointer (some ⟨a.tb, 0, none⟩)) ∧ W.cell? ⟨g12, 0, none⟩ = some (.int .u8 sv) ∧ W.cell? ⟨g12, 1, none⟩ = some (.int .u8 ty) ∧ W.cell? ⟨g12, 2, none⟩ = some (.int .u64 key) ∧ W.cell? ⟨g12, 3, none⟩ = some (.int .u64 act) ∧ W.cell? ⟨g12, 4, none⟩ = some (.bool false) :=
    fun W m => ⟨m.cell d87 (fun e => e), m.cell x0 (fun e => e), m.cell x1 (fun e => e), m.cell x2 (fun e => e), m.cell x3 (fun e => e), m.cell x4 (fun e => e)⟩
  have U7d := U7.out.1.keep ((Mod.refl (fun _ => False) w7).drew)
  have hdo7 := U7d.1.tdo n sv ty key act N hk.out hN ⟨by omega, by omega⟩ hsv
  have cg12 : c g12 = 0 := h.out.sup _ (by have := m03.out.size; have := hg12.out; omega)
  replace hS := hide hS; replace U7d := hide U7d; replace hdo7 := hide hdo7; replace cg12 := hide cg12
  clear x0 x1 x2 x3 x4 d87 y0 y1 y2 y3 y4 z2 z3 d8 d9
  go_region_held3 (fun w' => w'.cell? ⟨u, 8, none⟩ = some (.pointer (some ⟨a.tb, 0, none⟩)) ∧ w'.cell? ⟨g12, 0, none⟩ = some (.int .u8 sv) ∧ w'.cell? ⟨g12, 1, none⟩ = some (.int .u8 ty) ∧ w'.cell? ⟨g12, 2, none⟩ = some (.int .u64 key) ∧ w'.cell? ⟨g12, 3, none⟩ = some (.int .u64 act) ∧ w'.cell? ⟨g12, 4, none⟩ = some (.bool false))
    (first | exact hS.out _ ((Mod.refl _ w7).drew) | exact hS8.out)
    (first
    | (go_at_call 92; (with_reducible refine hdo7.out.mono ?_); rintro e w8 ⟨c8, st, code, A8, k8, cp8, evs, T', F, rfl, hst, hrow8, hev, hevl, hown8, U8, X8, hk8, M8, hF8⟩
       have h8g := M8.heap (show w7.drew.heap[g12]? = _ from h7.out) (fun e => by have := hF8 _ e; rw [cg12.out] at this; cases this)
       obtain ⟨x0, x1, x2, x3, x4⟩ := outA_cells h8g
       obtain ⟨-, -, -, d88, d98, -, -, -, -⟩ := U8.cells
       rw [← hu.out] at d88 d98
       have hS8 : w8.cell? ⟨u, 8, none⟩ = some (.pointer (some ⟨a.tb, 0, none⟩)) ∧ w8.cell? ⟨g12, 0, none⟩ = some (.int .u8 sv) ∧ w8.cell? ⟨g12, 1, none⟩ = some (.int .u8 ty) ∧ w8.cell? ⟨g12, 2, none⟩ = some (.int .u64 key) ∧ w8.cell? ⟨g12, 3, none⟩ = some (.int .u64 act) ∧ w8.cell? ⟨g12, 4, none⟩ = some (.bool false) := ⟨d88, x0, x1, x2, x3, x4⟩
       clear x0 x1 x2 x3 x4
       replace hst := hide hst; replace hrow8 := hide hrow8; replace hev := hide hev; replace hevl := hide hevl; replace hown8 := hide hown8; replace U8 := hide U8; replace X8 := hide X8; replace hk8 := hide hk8; replace M8 := hide M8; replace hF8 := hide hF8; replace hS8 := hide hS8; clear h8g))
  have hle : W3.heap.size = g12 := hg12.out.symm
  have h88 : w8.heap[g8]? = some (.cells zs35 35 (0, 0)) ∧ c8 g8 = 0 := by
    have e8 : c g8 = 0 := h.out.sup _ (by have := hg8.out; have := m1.out.size; omega)
    have e1 := M47.out.heap (m24.out.heap h82.out (fun e => e)) (fun e => by have := m23.out.size; omega)
    exact X8.out.keep0 (show w7.drew.heap[g8]? = _ from e1) e8
  have X18 : UX B c c8 w w8 := ((U4.out.2.own M47.out (by have := m03.out.size; omega) h.out.big).trans U7d.out.2).trans X8.out
  have lo8 : w.heap.size ≤ g8 := by have := hg8.out; have := m1.out.size; omega
  have lo88 : g8 < w8.heap.size := (Array.getElem?_eq_some_iff.1 h88.1).1
  clear hS hdo7 hM6 hlast h6 hget0 hget8
  replace X18 := hide X18; replace h88 := hide h88; replace hle := hide hle
  obtain ⟨-, -, -, d88, d98, -, -, -, -⟩ := U8.out.cells
  rw [← hu.out] at d88 d98
  rcases hst.out with rfl | rfl | rfl
  · have hP : Hid (∃ ck Lk, UN B ck w8 a { S with T := T', L := Lk } 0 ∧ UX B c8 ck w8 w8 ∧ Row w8 201 2 encE (.slice A8 k8 cp8) evs ∧ ∀ b, (Value.slice A8 k8 cp8).ownBlock = some b → ck b = 3) := hide ⟨c8, S.L, U8.out, UX.refl U8.out, hrow8.out, hown8.out⟩
    have hlen8 : evs.length = k8 := (hrow8.out.rd encE_len rfl).1
    have hk8b : k8 ≤ 2000 := by have := hevl.out; omega
    replace hlen8 := hide hlen8
    go_wp2_with fail
    go_loopw [92] (fun x wr => ∃ k : Nat, k ≤ k8 ∧ x = .int .i64 k ∧ Hid (∃ ck Lk, UN B ck wr a { S with T := T', L := Lk } 0 ∧ UX B c8 ck w8 wr ∧ Row wr 201 2 encE (.slice A8 k8 cp8) evs ∧ ∀ b, (Value.slice A8 k8 cp8).ownBlock = some b → ck b = 3)) (fun x _ => k8 - (intOf x).toNat)
    case atStart => exact ⟨0, Nat.zero_le _, rfl, hP⟩
    case round =>
      clear hP d88 d98
      obtain ⟨k, hk, rfl, hR⟩ := hrel
      obtain ⟨ck, Lk, Uk, Xk, Rk, Ok⟩ := hR.out
      clear hR
      obtain ⟨-, -, -, d8, d9, -, -, -, -⟩ := Uk.cells
      rw [← hu.out] at d8 d9
      by_cases hkm : k < k8
      · obtain ⟨ad, rfl, hc⟩ := (Rk.rd encE_len rfl).2 k hkm
        obtain ⟨r, hrk⟩ : ∃ r, r = gi evs k := ⟨_, rfl⟩
        have hr8 : 0 ≤ r.1 ∧ r.1 < 8 ∧ A.U16 r.2 := by rw [hrk, gi_eq evs k (by rw [hlen8.out]; exact hkm)]; exact hev.out _ (List.getElem_mem _)
        rw [← hrk] at hc
        have hcc : ∀ j u, ([.int .i64 r.1, .int .u16 r.2] : List Value)[j]? = some u → wr.cell? ((ad.add (k * 2)).add j) = some u := fun j u hu => by rw [addr_add]; exact hc j u hu
        have q1 : (k : Int) < k8 := by omega
        clear hc hrk
        replace hcc := hide hcc; replace hr8 := hide hr8; replace Uk := hide Uk; replace Xk := hide Xk; replace Rk := hide Rk; replace Ok := hide Ok
        go_wp2_with (first
          | ((with_reducible refine list_load 201 (.tmp 94) ?_ ?_ _ Tryz.underlying201 ?_ (ad.add (k * 2)) ([.int .i64 r.1, .int .u16 r.2] : List Value) ?_ ?_ hcc.out ?_)
             exact rfl
             exact rfl
             exact rfl
             exact size201
             exact rfl
             skip)
          | ((with_reducible refine list_al 201 _ new201 ?_ ?_ ?_)
             exact rfl
             exact rfl
             intro v2 g2 hg2 h2 m2' s2
             replace hg2 := hide hg2; replace h2 := hide h2; replace m2' := hide m2'; replace s2 := hide s2)
          | ((with_reducible refine list_put 201 (.tmp 19) (.tmp 95) ?_ ?_ g2 #[.int .i64 r.1, .int .u16 r.2] ?_ ?_ z201 h2.out ?_ ?_ ?_ ?_)
             exact rfl
             exact rfl
             exact rfl
             exact rfl
             exact rfl
             exact size201
             exact ev_one r
             intro v3 h3 m3
             have x0 : v3.cell? ⟨g2, 0, none⟩ = some (.int .i64 r.1) := by rw [cell_of_row v3 _ _ _ 201 (0, 0) h3]; rfl
             have x1 : v3.cell? ⟨g2, 1, none⟩ = some (.int .u16 r.2) := by rw [cell_of_row v3 _ _ _ 201 (0, 0) h3]; rfl
             have M3 : Mod (fun _ => False) wr v3 := m2'.out.trans m3 (fun k hk e => by have := hg2.out; omega)
             have U3 := Uk.out.keep (M3.drew)
             have R3 := Rk.out.mod M3.drew (fun _ _ e => e)
             have X3 := Xk.out.trans U3.2
             have d93 := M3.cell d9 (fun e => e)
             have hadd := U3.1.add2 r.1 r.2 hr8.out.1 hr8.out.2.1 hr8.out.2.2
             replace M3 := hide M3; replace h3 := hide h3; replace m3 := hide m3; replace U3 := hide U3; replace R3 := hide R3; replace X3 := hide X3; replace hadd := hide hadd))
        refine wp_region_still_tail 8 (by kernel_rfl) (by kernel_rfl) ?_
        simp only [List.take_succ_cons, List.take_zero, List.drop_succ_cons, List.drop_zero]
        repeat still_step
        refine wpStill_nil ?_
        change wpList _ _ _ _ _ v3.drew
        go_wp2_with (first
          | (go_at_call 69; (with_reducible refine hadd.out.mono ?_); rintro e v4 ⟨c4, F4, rfl, U4', X4, M4, hF4⟩
             have R4 := R3.out.mod M4 (fun b hb e => by have h1 := Ok.out b hb; have h2 := hF4 b e; omega)
             have O4 : ∀ b, (Value.slice (some ad) k8 cp8).ownBlock = some b → c4 b = 3 := fun b hb => by rw [X4.col b (R3.out.lt b hb)]; exact Ok.out b hb
             have X34 := X3.out.trans X4
             replace U4' := hide U4'; replace R4 := hide R4; replace O4 := hide O4; replace X34 := hide X34; clear X4 M4 hF4))
        exact ⟨⟨k + 1, by omega, rfl, hide ⟨c4, _, U4'.out, X34.out, R4.out, O4.out⟩⟩, by simp [intOf]; omega⟩
      · obtain rfl : k8 = k := by omega
        have q1 : decide ((k8 : Int) < k8) = false := by simp
        obtain ⟨F, ⟨vt, hT, -⟩, -⟩ := Uk.tbl
        have h91 := lasts_any a.tb vt T' wr hT
        rw [hk8.out.low] at h91
        have hg8k := Xk.keep0 h88.out.1 h88.out.2
        replace h91 := hide h91; replace Uk := hide Uk; replace Xk := hide Xk; replace Rk := hide Rk; replace Ok := hide Ok; replace hg8k := hide hg8k; replace hT := hide hT
        go_wp2_with (first
          | (go_at_call 91; (with_reducible refine h91.out.mono ?_); rintro e w5 ⟨rfl, m5⟩
             have hg5 := m5.heap hg8k.out.1 (fun e => e)
             have U5 := Uk.out.keep m5
             replace hg5 := hide hg5; replace m5 := hide m5; replace U5 := hide U5)
          | ((with_reducible refine list_put 35 (.tmp 8) (.tmp 121) ?_ ?_ g8 (rcA 0 0 0 0 false (.slice none 0 0)) ?_ ?_ zs35 hg5.out ?_ ?_ ?_ ?_)
             exact rfl
             exact rfl
             exact rfl
             exact rfl
             exact rfl
             exact size35
             exact rc_one _ _ _ _ _ _ _ _
             intro v6 h13x m13x
             replace h13x := hide h13x; replace m13x := hide m13x))
        exact bodyPost_ret (v := rsA 0 0 0 0 false (.slice none 0 0)) (results_one rfl rfl (load_whole h13x.out Tryz.underlying35 rfl size35)) rfl ⟨0, 0, 0, 0, false, none, 0, 0, [], ck, a, _, rfl, Row.nil _ _ _ _, by simp [Value.ownBlock], U5.out.1.mod m13x.out (fun k e => by rw [e]; exact hg8k.out.2), hu.out.symm, ((X18.out.trans Xk.out).trans U5.out.2).own m13x.out lo8 h.out.big, rfl, Lk, T', rfl, hk8.out⟩
  · go_wp2_with (first
      | ((with_reducible refine list_al 35 _ new35' ?_ ?_ ?_)
         exact rfl
         exact rfl
         intro v1 g17 hg17 h171 m171 s171
         replace hg17 := hide hg17; replace h171 := hide h171; replace m171 := hide m171; replace s171 := hide s171)
      | ((with_reducible refine list_put 35 (.tmp 17) (.tmp 83) ?_ ?_ g17 (rcA 2 0 0 0 false (.slice none 0 0)) ?_ ?_ zs35 h171.out ?_ ?_ ?_ ?_)
         exact rfl
         exact rfl
         exact rfl
         exact rfl
         exact rfl
         exact size35
         exact rc_one _ _ _ _ _ _ _ _
         intro v2 h172 m172
         replace h172 := hide h172; replace m172 := hide m172)
      | ((with_reducible refine list_mid 35 33 (.tmp 88) (.tmp 87) ?_ ?_ g17 1 (seA 5 code 0 false) ?_ ?_ (rcA 2 0 0 0 false (.slice none 0 0)) (rcA 2 5 code 0 false (.slice none 0 0)) h172.out ?_ ?_ ?_ ?_ ?_ ?_)
         exact rfl
         exact rfl
         exact rfl
         exact rfl
         exact (by decide : 1 + 8 ≤ 10)
         exact rfl
         exact mid35 code
         exact size33
         exact se_one _ _ _ _
         intro v3 h173 m173
         replace h173 := hide h173; replace m173 := hide m173)
      | ((with_reducible refine list_whole 35 (.tmp 17) ?_ ?_ ⟨g17, 0, none⟩ (rcA 2 5 code 0 false (.slice none 0 0)) ?_ ?_ ?_)
         exact rfl
         exact rfl
         exact rfl
         exact load_whole h173.out Tryz.underlying35 rfl size35
         have M83 : Mod (fun _ => False) w8 v3 := (m171.out.trans m172.out (fun k hk e => by have := hg17.out; omega)).trans m173.out (fun k hk e => by have := hg17.out; omega)
         have e83 := M83.heap h88.out.1 (fun e => e)
         replace M83 := hide M83; replace e83 := hide e83)
      | ((with_reducible refine list_put 35 (.tmp 8) (.tmp 89) ?_ ?_ g8 (rcA 2 5 code 0 false (.slice none 0 0)) ?_ ?_ zs35 e83.out ?_ ?_ ?_ ?_)
         exact rfl
         exact rfl
         exact rfl
         exact rfl
         exact rfl
         exact size35
         exact rc_one _ _ _ _ _ _ _ _
         intro v6 h13x m13x
         replace h13x := hide h13x; replace m13x := hide m13x))
    have K := U8.out.keep M83.out
    exact bodyPost_ret (v := rsA 2 5 code 0 false (.slice none 0 0)) (results_one rfl rfl (load_whole h13x.out Tryz.underlying35 rfl size35)) rfl ⟨2, 5, code, 0, false, none, 0, 0, [], c8, a, _, rfl, Row.nil _ _ _ _, by simp [Value.ownBlock], K.1.mod m13x.out (fun k e => by rw [e]; exact h88.out.2), hu.out.symm, (X18.out.trans K.2).own m13x.out lo8 h.out.big, rfl, S.L, T', rfl, hk8.out⟩
  · go_wp2_with (first
      | ((with_reducible refine list_al 35 _ new35' ?_ ?_ ?_)
         exact rfl
         exact rfl
         intro v1 g17 hg17 h171 m171 s171
         replace hg17 := hide hg17; replace h171 := hide h171; replace m171 := hide m171; replace s171 := hide s171)
      | ((with_reducible refine list_put 35 (.tmp 17) (.tmp 83) ?_ ?_ g17 (rcA 24 0 0 0 false (.slice none 0 0)) ?_ ?_ zs35 h171.out ?_ ?_ ?_ ?_)
         exact rfl
         exact rfl
         exact rfl
         exact rfl
         exact rfl
         exact size35
         exact rc_one _ _ _ _ _ _ _ _
         intro v2 h172 m172
         replace h172 := hide h172; replace m172 := hide m172)
      | ((with_reducible refine list_whole 35 (.tmp 17) ?_ ?_ ⟨g17, 0, none⟩ (rcA 24 0 0 0 false (.slice none 0 0)) ?_ ?_ ?_)
         exact rfl
         exact rfl
         exact rfl
         exact load_whole h172.out Tryz.underlying35 rfl size35
         have M83 : Mod (fun _ => False) w8 v2 := m171.out.trans m172.out (fun k hk e => by have := hg17.out; omega)
         have e83 := M83.heap h88.out.1 (fun e => e)
         replace M83 := hide M83; replace e83 := hide e83)
      | ((with_reducible refine list_put 35 (.tmp 8) (.tmp 89) ?_ ?_ g8 (rcA 24 0 0 0 false (.slice none 0 0)) ?_ ?_ zs35 e83.out ?_ ?_ ?_ ?_)
         exact rfl
         exact rfl
         exact rfl
         exact rfl
         exact rfl
         exact size35
         exact rc_one _ _ _ _ _ _ _ _
         intro v6 h13x m13x
         replace h13x := hide h13x; replace m13x := hide m13x))
    have K := U8.out.keep M83.out
    exact bodyPost_ret (v := rsA 24 0 0 0 false (.slice none 0 0)) (results_one rfl rfl (load_whole h13x.out Tryz.underlying35 rfl size35)) rfl ⟨24, 0, 0, 0, false, none, 0, 0, [], c8, a, _, rfl, Row.nil _ _ _ _, by simp [Value.ownBlock], K.1.mod m13x.out (fun k e => by rw [e]; exact h88.out.2), hu.out.symm, (X18.out.trans K.2).own m13x.out lo8 h.out.big, rfl, S.L, T', rfl, hk8.out⟩
end Go.Proofs.YtjkpelbhhapebaaGreatDoor
namespace Go.Proofs.YtjkpelbhhapebaaGreatDoor
open Go.RowKit
set_option maxRecDepth 100000
set_option maxHeartbeats 4000000 in
theorem parse_sv (sv k : Int) (n ab cap : Nat) (L M : List Int) (c : Cm) (w : World) (hsv : bits BinOp.and IntKind.u8 sv 31 = sv)
    (hr : Rd w 1 (ic .u8) (some ⟨ab, 0, none⟩) n L) (hn1 : 2 ≤ n) (hn2 : n ≤ cap) (hn3 : n ≤ 1000) (h0 : gi L 0 = 95) (hs1 : gi L 1 = sv) (hM : M.length = n) (hodd : ∀ i, i < n → oddB L M i = 0)
    (hus : ∀ W, Calls Tryz.prog 45 #[.int .u8 95, .int .u8 sv] W (UsA W M true)) (hkd : ∀ W, Calls Tryz.prog 47 #[.int .u8 95] W fun e w' => e = .returned (.int .u8 k) ∧ W = w')
    (hfl : ∀ W g, CM W g (cm0 k) → Rd W 1 (ic .u8) (some ⟨ab, 0, none⟩) n L → ab ≠ g → Calls Tryz.prog 48 #[.pointer (some ⟨g, 0, none⟩), .slice (some ⟨ab, 0, none⟩) n cap, .int .u8 sv] W fun e w' => e = .returned (.tuple #[.int .i64 (-1), .int .i64 0]) ∧ CM w' g c ∧ Mod (fun k => k = g) W w') :
    Calls Tryz.prog 22 #[.slice (some ⟨ab, 0, none⟩) n cap] w fun e w' => e = .returned (.tuple #[.agg (cmA c), .agg (seA 0 0 0 false), .bool true]) ∧ Mod (fun _ => False) w w' := by
  have habl := hr.lt0 (show 0 < n by omega)
  have hsn : ∀ (w : World) (a : Option Addr) (n c n' c' : Nat), (binOp .eql 22 (.slice a n c) (.slice none n' c')).run Tryz.prog w = .ok (.bool a.isNone) w := fun w a n c n' c' => Lib.run_eql_slice_nil w 22 5 a n c n' c' Tryz.underlying22
  have hd0 : ((n : Int) == 0) = false := by simp; omega
  have i0 : (0 : Int) < n := by omega
  have i1 : ¬ ((n : Int) < n) := by omega
  have i2 : decide ((n : Int) < 2) = false := by simp; omega
  have i3 : (1 : Int) < n := by omega
  replace hr := hide hr; replace hodd := hide hodd; replace hus := hide hus; replace hkd := hide hkd; replace hfl := hide hfl; replace h0 := hide h0; replace hs1 := hide hs1; replace hM := hide hM
  have tok1 : True := trivial
  go_enter Tryz.func22, Tryz.ntmps22
  go_wp2_with (first
    | (have _t := tok1
       refine list_al 104 _ new104 rfl rfl ?_
       clear _t tok1
       intro w1 g1 hg1 hh1 m1 hz1
       replace hg1 := hide hg1; replace hh1 := hide hh1; replace m1 := hide m1; replace hz1 := hide hz1)
    | (refine list_al 33 _ new33 rfl rfl ?_
       intro w2 g2 hg2 hh2 m2 hz2
       have m02 := m1.out.trans m2 (fun _ _ h => h)
       have q0 := rd_at (hr.out.mod m02 (fun _ _ h => h)) 0 (by omega)
       rw [h0.out] at q0
       have q1 := rd_at (hr.out.mod m02 (fun _ _ h => h)) 1 (by omega)
       rw [hs1.out] at q1
       have us2 := hus.out w2
       replace hg2 := hide hg2; replace hh2 := hide hh2; replace m2 := hide m2; replace hz2 := hide hz2; replace m02 := hide m02; replace us2 := hide us2)
    | (go_at_call 45; (with_reducible refine us2.out.mono ?_); rintro e w3 ⟨A3, c3, rfl, hrow3, m3, own3⟩
       rw [hM.out] at hrow3 own3
       rw [hM.out]
       obtain ⟨mg, mc, e3, -⟩ := hrow3.some_ (by rw [hM.out]; omega)
       rw [hM.out] at e3
       injection e3 with e3 _ e4
       subst e3 e4
       have m03 := m02.out.trans m3 (fun _ _ h => h)
       have hod := odd_none (some ⟨ab, 0, none⟩) (some ⟨mg, 0, none⟩) n cap n c3 L M w3 (hr.out.mod m03 (fun _ _ h => h)) (hrow3.rd (ic_len _) rfl) (by omega) (by omega) hodd.out
       have kd3 := hkd.out w3
       replace hod := hide hod; replace kd3 := hide kd3; replace m03 := hide m03
       replace hrow3 := hide hrow3; replace m3 := hide m3; replace own3 := hide own3)
    | (go_at_call 46; (with_reducible refine hod.out.mono ?_); rintro e w4 ⟨rfl, rfl⟩)
    | (go_at_call 47; (with_reducible refine kd3.out.mono ?_); rintro e w5 ⟨rfl, rfl⟩)
    | (refine list_al 104 _ new104 rfl rfl ?_
       intro w6 g6 hg6 hh6 m6 hz6
       replace hg6 := hide hg6; replace hh6 := hide hh6; replace m6 := hide m6; replace hz6 := hide hz6)
    | (refine list_put 104 (.tmp 11) (.tmp 86) rfl rfl g6 (cmA (cm0 k)) rfl rfl (cmA (cm0 0)) hh6.out rfl size104 (cm_one _) ?_
       intro w7 hh7 m7
       have m07 : Mod (fun _ => False) w w7 := (m03.out.trans m6.out (fun _ _ h => h)).trans m7 (fun i hi e => by
         have := hg6.out
         have := m03.out.size
         omega)
       have hne : ab ≠ g6 := by
         have := hg6.out
         have := m03.out.size
         omega
       have fl7 := hfl.out w7 g6 hh7 (hr.out.mod m07 (fun _ _ h => h)) hne
       replace hh7 := hide hh7; replace m7 := hide m7; replace m07 := hide m07; replace fl7 := hide fl7; replace hne := hide hne)
    | (go_at_call 48; (with_reducible refine fl7.out.mono ?_); rintro e w8 ⟨rfl, hcm8, m8⟩
       have m08 : Mod (fun _ => False) w w8 := m07.out.trans m8 (fun i hi e => by
         have := hg6.out
         have := m03.out.size
         omega)
       have hh18 := m8.heap (m7.out.heap (m6.out.heap (m3.out.heap (m2.out.heap hh1.out (fun h => h)) (fun h => h)) (fun h => h)) (fun e => by
         have := hg6.out
         have := m3.out.size
         have := m2.out.size
         have := hz1.out
         omega)) (fun e => by
         have := hg6.out
         have := m3.out.size
         have := m2.out.size
         have := hz1.out
         omega)
       have hh28 := m8.heap (m7.out.heap (m6.out.heap (m3.out.heap hh2.out (fun h => h)) (fun h => h)) (fun e => by
         have := hg6.out
         have := m3.out.size
         have := hz2.out
         omega)) (fun e => by
         have := hg6.out
         have := m3.out.size
         have := hz2.out
         omega)
       replace hcm8 := hide hcm8; replace m8 := hide m8; replace m08 := hide m08; replace hh18 := hide hh18; replace hh28 := hide hh28)
    | (refine list_whole 104 (.tmp 11) rfl rfl ⟨g6, 0, none⟩ (cmA c) rfl (load_whole hcm8.out Tryz.underlying104 rfl size104) ?_)
    | (refine list_put 104 (.tmp 2) (.tmp 99) rfl rfl g1 (cmA c) rfl rfl (cmA (cm0 0)) hh18.out rfl size104 (cm_one _) ?_
       intro w9 hh9 m9
       have hh29 := m9.heap hh28.out (fun e => by
         have := hg2.out
         have := hz1.out
         omega)
       replace hh9 := hide hh9; replace m9 := hide m9; replace hh29 := hide hh29)
    | (refine list_put 33 (.tmp 3) (.tmp 100) rfl rfl g2 (seA 0 0 0 false) rfl rfl (seA 0 0 0 false) hh29.out rfl size33 (se_one _ _ _ _) ?_
       intro w10 hh10 m10
       have hh19 := m10.heap hh9.out (fun e => by
         have := hg2.out
         have := hz1.out
         omega)
       replace hh10 := hide hh10; replace m10 := hide m10; replace hh19 := hide hh19))
  refine bodyPost_ret (v := .tuple #[.agg (cmA c), .agg (seA 0 0 0 false), .bool true]) (results_ccs rfl rfl rfl (load_whole hh19.out Tryz.underlying104 rfl size104) (load_whole hh10.out Tryz.underlying33 rfl size33) rfl) rfl ⟨rfl, ?_⟩
  have := hg1.out
  have := hg2.out
  have := hz1.out
  exact (m08.out.trans m9.out (fun i hi e => by omega)).trans m10.out (fun i hi e => by omega)
/-- REQUEST SENSE, parsed. -/
def cmR : Cm := ⟨2, false, 0, 0, 18, false, 0, false, false, 0, 0, false, 0, 0, false⟩
def rsL : List Int := [3, 0, 0, 0, 18, 0]
theorem fill_rs (g cap ab : Nat) (sv : Int) (w : World) (hcm : CM w g (cm0 2)) (hr : Rd w 1 (ic .u8) (some ⟨ab, 0, none⟩) 6 rsL) (_hcap : 6 ≤ cap) (_hAg : ab ≠ g) :
    Calls Tryz.prog 48 #[.pointer (some ⟨g, 0, none⟩), .slice (some ⟨ab, 0, none⟩) 6 cap, .int .u8 sv] w fun e w' => e = .returned (.tuple #[.int .i64 (-1), .int .i64 0]) ∧ CM w' g cmR ∧ Mod (fun k => k = g) w w' := by
  have k0 : w.cell? ⟨g, 0, none⟩ = some (.int .u8 2) := hcm.c0
  have k1 : w.cell? ⟨g, 1, none⟩ = some (.bool false) := hcm.at_ 1
  have k4 : w.cell? ⟨g, 4, none⟩ = some (.int .i64 0) := hcm.at_ 4
  have f1 := hcm.fr 1
  have f4 := hcm.fr 4
  have c1 : w.cell? ⟨ab, 1, none⟩ = some (.int .u8 0) := rd_at hr 1 (by omega)
  have c4 : w.cell? ⟨ab, 4, none⟩ = some (.int .u8 18) := rd_at hr 4 (by omega)
  have z1 := hcm.set 4 (.int .i64 18) { cm0 2 with alloc := 18 } rfl
  have z2 := z1.1.set 1 (.bool false) cmR rfl
  have hE : Hid (CM ((w.setCell ⟨g, 4, none⟩ (.int .i64 18)).setCell ⟨g, 1, none⟩ (.bool false)) g cmR ∧ Mod (fun k => k = g) w ((w.setCell ⟨g, 4, none⟩ (.int .i64 18)).setCell ⟨g, 1, none⟩ (.bool false))) := hide ⟨z2.1, z1.2.trans z2.2 (fun _ _ h => h)⟩
  have hb : (bits BinOp.and IntKind.u8 0 1 == 1) = false := by decide
  clear z1 z2
  replace hcm := hide hcm; replace hr := hide hr
  go_enter Tryz.func48, Tryz.ntmps48
  go_wp2_with fail
  go_ret2
  exact ⟨rfl, hE.out⟩
theorem parse_rs (ab cap : Nat) (w : World) (hr : Rd w 1 (ic .u8) (some ⟨ab, 0, none⟩) 6 rsL) (hc : 6 ≤ cap) :
    Calls Tryz.prog 22 #[.slice (some ⟨ab, 0, none⟩) 6 cap] w fun e w' => e = .returned (.tuple #[.agg (cmA cmR), .agg (seA 0 0 0 false), .bool true]) ∧ Mod (fun _ => False) w w' :=
  parse_any 3 2 6 ab cap rsL [3, 1, 0, 0, 255, 0] cmR w rfl rfl rfl rfl hr (by omega) hc (by omega) rfl rfl (fun i hi => by
    rcases (by omega : i = 0 ∨ i = 1 ∨ i = 2 ∨ i = 3 ∨ i = 4 ∨ i = 5) with rfl | rfl | rfl | rfl | rfl | rfl <;> decide) (fun W => usage_03 0 W) (fun W => kind_any 3 2 (by decide) W)
    (fun W g h1 h2 h3 => fill_rs g cap ab 0 W h1 h2 hc h3)
def prL (sv ty : Int) : List Int := [95, sv, ty, 0, 0, 0, 0, 0, 24, 0]
set_option maxHeartbeats 4000000 in
theorem fill_pr (g cap ab : Nat) (sv ty : Int) (w : World) (hcm : CM w g (cm0 16)) (hr : Rd w 1 (ic .u8) (some ⟨ab, 0, none⟩) 10 (prL sv ty)) (hcap : 10 ≤ cap) (hAg : ab ≠ g) (hty : bits BinOp.and IntKind.u8 ty 15 = ty) (hb : Bytes (prL sv ty)) :
    Calls Tryz.prog 48 #[.pointer (some ⟨g, 0, none⟩), .slice (some ⟨ab, 0, none⟩) 10 cap, .int .u8 sv] w fun e w' => e = .returned (.tuple #[.int .i64 (-1), .int .i64 0]) ∧ CM w' g (cmP sv ty) ∧ Mod (fun k => k = g) w w' := by
  have hn : ∀ W, Mod (fun k => k = g) w W → Calls Tryz.prog 74 #[.slice (some ⟨ab, 0, none⟩) 10 cap, .int .i64 5, .int .i64 4] W fun e w' => e = .returned (.int .u64 24) ∧ W = w' := fun W m => by
    have h1 : val (((prL sv ty).drop 5).take 4) = 24 := by simp [prL, val]
    rw [← h1]
    exact number_in ⟨ab, 0, none⟩ 10 cap 5 4 (prL sv ty) W (hr.mod m (fun ad e => by obtain rfl := Option.some.inj e; exact hAg)) hb (by omega) (by omega) (by omega) hcap (by omega)
  have k0 : w.cell? ⟨g, 0, none⟩ = some (.int .u8 16) := hcm.c0
  have k4 : w.cell? ⟨g, 4, none⟩ = some (.int .i64 0) := hcm.at_ 4
  have k12 : w.cell? ⟨g, 12, none⟩ = some (.int .u8 0) := hcm.at_ 12
  have k13 : w.cell? ⟨g, 13, none⟩ = some (.int .u8 0) := hcm.at_ 13
  have f4 := hcm.fr 4
  have f12 := hcm.fr 12
  have f13 := hcm.fr 13
  have c2 : w.cell? ⟨ab, 2, none⟩ = some (.int .u8 ty) := rd_at hr 2 (by omega)
  have hS : Hid (∀ W, Mod (fun k => k = g) w W → W.cell? ⟨ab, 2, none⟩ = some (.int .u8 ty)) := hide fun W m => m.cell c2 hAg
  replace hcm := hide hcm; replace hr := hide hr; replace hb := hide hb; replace hn := hide hn
  go_enter Tryz.func48, Tryz.ntmps48
  go_wp2_with fail
  go_region_held3 (fun w' => w'.cell? ⟨ab, 2, none⟩ = some (.int .u8 ty)) ((refine hS.out _ ?_; repeat (first | exact Mod.refl _ _ | refine Mod.drew ?_ | refine mod_s ?_)))
    (first
    | (go_at_call 74; (with_reducible refine (hn.out _ ?_).mono ?_); (repeat (first | exact Mod.refl _ _ | refine Mod.drew ?_ | refine mod_s ?_)); rintro e w1 ⟨rfl, rfl⟩))
  go_wp2_with fail
  go_ret2
  refine ⟨rfl, ?_⟩
  have z1 := hcm.out.set 12 (.int .u8 sv) { cm0 16 with service := sv } rfl
  have z2 := z1.1.set 13 (.int .u8 ty) { cm0 16 with service := sv, type := ty } rfl
  have z3 := z2.1.set 4 (.int .i64 24) (cmP sv ty) rfl
  refine ⟨z3.1, ?_⟩
  repeat (first | exact Mod.refl _ _ | refine Mod.drew ?_ | refine mod_s ?_)
theorem odd_pr (sv ty : Int) (hsv : bits BinOp.andNot IntKind.u8 sv 31 = 0) (hty : bits BinOp.andNot IntKind.u8 ty 15 = 0) (i : Nat) (hi : i < 10) : oddB (prL sv ty) [95, 31, 15, 0, 0, 255, 255, 255, 255, 0] i = 0 := by
  rcases (by omega : i = 0 ∨ i = 1 ∨ i = 2 ∨ i = 3 ∨ i = 4 ∨ i = 5 ∨ i = 6 ∨ i = 7 ∨ i = 8 ∨ i = 9) with rfl | rfl | rfl | rfl | rfl | rfl | rfl | rfl | rfl | rfl
  · exact (by decide : bits BinOp.andNot IntKind.u8 95 95 = 0)
  · exact hsv
  · exact hty
  any_goals (first | exact z255 | exact z00)
  exact (by decide : bits BinOp.andNot IntKind.u8 24 255 = 0)
theorem low31 (x : Int) (h : 0 ≤ x ∧ x ≤ 6) : bits BinOp.andNot IntKind.u8 x 31 = 0 ∧ bits BinOp.and IntKind.u8 x 31 = x := by
  obtain ⟨n, rfl⟩ := Int.eq_ofNat_of_zero_le h.1
  have : ∀ i : Fin 7, bits BinOp.andNot IntKind.u8 ((i.1 : Nat) : Int) 31 = 0 ∧ bits BinOp.and IntKind.u8 ((i.1 : Nat) : Int) 31 = ((i.1 : Nat) : Int) := by decide +kernel
  exact this ⟨n, by omega⟩
theorem low15 (x : Int) (h : 0 ≤ x ∧ x ≤ 8) : bits BinOp.andNot IntKind.u8 x 15 = 0 ∧ bits BinOp.and IntKind.u8 x 15 = x := by
  obtain ⟨n, rfl⟩ := Int.eq_ofNat_of_zero_le h.1
  have : ∀ i : Fin 9, bits BinOp.andNot IntKind.u8 ((i.1 : Nat) : Int) 15 = 0 ∧ bits BinOp.and IntKind.u8 ((i.1 : Nat) : Int) 15 = ((i.1 : Nat) : Int) := by decide +kernel
  exact this ⟨n, by omega⟩
theorem bytes_pr {sv ty : Int} (h1 : 0 ≤ sv ∧ sv ≤ 6) (h2 : 0 ≤ ty ∧ ty ≤ 8) : Bytes (prL sv ty) := by
  intro x hx
  simp only [prL, List.mem_cons, List.not_mem_nil, or_false] at hx
  rcases hx with rfl | rfl | rfl | rfl | rfl | rfl | rfl | rfl | rfl | rfl <;> omega
theorem parse_pr (sv ty : Int) (ab cap : Nat) (w : World) (h1 : 0 ≤ sv ∧ sv ≤ 6) (h2 : 0 ≤ ty ∧ ty ≤ 8) (hr : Rd w 1 (ic .u8) (some ⟨ab, 0, none⟩) 10 (prL sv ty)) (hc : 10 ≤ cap) :
    Calls Tryz.prog 22 #[.slice (some ⟨ab, 0, none⟩) 10 cap] w fun e w' => e = .returned (.tuple #[.agg (cmA (cmP sv ty)), .agg (seA 0 0 0 false), .bool true]) ∧ Mod (fun _ => False) w w' :=
  parse_sv sv 16 10 ab cap (prL sv ty) [95, 31, 15, 0, 0, 255, 255, 255, 255, 0] (cmP sv ty) w (low31 sv h1).2 hr (by omega) hc (by omega) rfl rfl rfl (odd_pr sv ty (low31 sv h1).1 (low15 ty h2).1) (fun W => usage_5f sv h1 W) (fun W => kind_any 95 16 (by decide) W)
    (fun W g q1 q2 q3 => fill_pr g cap ab sv ty W q1 q2 hc q3 (low15 ty h2).2 (bytes_pr h1 h2))
end Go.Proofs.YtjkpelbhhapebaaGreatDoor
namespace Go.Proofs.YtjkpelbhhapebaaGreatDoor
open Go.RowKit
open W (Nxt)
set_option maxRecDepth 100000
theorem UN.peekx {B : Nat} {c : Nat → Nat} {w : World} {a : UA} {S : US} {mu : Int} (h : UN B c w a S mu) (n : Nat) (h8 : n < 8) :
    Calls Tryz.prog 23 #[.pointer (some ⟨a.qb, 0, none⟩), .int .i64 n] w fun e w' => ∃ code b, e = .returned (.tuple #[.int .u16 code, .bool b]) ∧ Mod (fun _ => False) w w' := by
  rcases Nat.eq_zero_or_pos (S.L n).length with h0 | h0
  · exact (h.peek0 n h8 (List.eq_nil_of_length_eq_zero h0)).mono fun e w' ⟨e1, e2⟩ => ⟨_, _, e1, e2⟩
  · exact (h.peek1 n h8 h0).mono fun e w' ⟨e1, e2⟩ => ⟨_, _, e1, e2⟩
set_option maxHeartbeats 16000000 in
/-- What is free runs, whatever waits. -/
theorem do_free (B : Nat) (c : Nat → Nat) (a : UA) (S S1 : US) (n ab na cap : Nat) (L : List Int) (cm : Cm) (P : Value) (w : World) (h : UN B c w a S 0) (hst : StC B a S S1) (h8 : n < 8) (hr : Rd w 1 (ic .u8) (some ⟨ab, 0, none⟩) na L) (hna : 0 < na) (hab : c ab = 0)
    (hpa : ∀ W, Rd W 1 (ic .u8) (some ⟨ab, 0, none⟩) na L → Calls Tryz.prog 22 #[.slice (some ⟨ab, 0, none⟩) na cap] W fun e w' => e = .returned (.tuple #[.agg (cmA cm), .agg (seA 0 0 0 false), .bool true]) ∧ Mod (fun _ => False) W w')
    (k cls : Int) (hkd : cm.kind = k) (hcl : (k, cls) ∈ classOf) (hal : (k, false) ∈ altersOf) (t3 : (k == 3) = false) (t17 : (k == 17) = false) (t2 : (k == 2) = true)
    (hcon : ∀ c' W a', UN B c' W a' S1 0 → Calls Tryz.prog 25 #[.pointer (some ⟨a'.tb, 0, none⟩), .int .i64 n, .int .u8 cls] W fun e w' => e = .returned (.bool false) ∧ Mod (fun _ => False) W w')
    (RR : Int → Int → Int → Int → Bool → List Int → UA → US → Prop)
    (hrun : ∀ c' W a', UN B c' W a' S1 0 → a'.u = a.u → a'.wb = a.wb → UX B c c' w W → Calls Tryz.prog 28 #[.pointer (some ⟨a.u, 0, none⟩), .int .i64 n, .agg (cmA cm), P] W (ResP B c' W a.u RR)) :
    Calls Tryz.prog 10 #[.pointer (some ⟨a.u, 0, none⟩), .int .i64 n, .slice (some ⟨ab, 0, none⟩) na cap, P] w (ResP B c w a.u RR) := by
  replace hcon := hide hcon; replace hal := hide hal; replace hcl := hide hcl
  replace hrun := hide hrun
  obtain ⟨u, hu⟩ : ∃ u, u = a.u := ⟨_, rfl⟩
  have hd0 : decide ((n : Int) < 0) = false := by simp
  have hd8 : decide ((8 : Int) ≤ n) = false := by simp; omega
  have hablt := hr.lt0 hna
  have hult : u < w.heap.size := by rw [hu]; exact h.ult
  rw [← hu] at hrun ⊢
  replace h := hide h; replace hst := hide hst; replace hpa := hide hpa; replace hr := hide hr; replace hu := hide hu; replace hab := hide hab
  go_enter Tryz.func10, Tryz.ntmps10
  go_wp2_with (first
    | (refine list_al 35 _ new35' rfl rfl ?_
       intro w1 g8 hg8 h81 m1 hz1
       have U1 := (h.out.keep m1).1
       have X1 := (h.out.keep m1).2
       obtain ⟨k5, -, -, -, -, -, -, -, -⟩ := U1.cells
       obtain ⟨cn, hcn⟩ := U1.own.1
       have hct := count_any a S.prot S.done 0 cn w1 hcn
       have c8 : c g8 = 0 := h.out.sup _ (by omega)
       rw [← hu.out] at k5 hct
       replace hg8 := hide hg8; replace h81 := hide h81; replace m1 := hide m1; replace hz1 := hide hz1; replace U1 := hide U1; replace X1 := hide X1; replace hct := hide hct; replace hcn := hide hcn; replace c8 := hide c8)
    | (go_at_call 20; (with_reducible refine hct.out.mono ?_); rintro e w2 ⟨rv, cm2, rfl, ub2, m2, z2⟩
       rw [hu.out] at m2
       obtain ⟨U2, X2⟩ := U1.out.self ub2 m2 z2
       have h82 := X2.keep0 h81.out c8.out
       have hs2 := hst.out c w2 U2
       have X12 := X1.out.trans X2
       rw [← hu.out] at hs2
       replace U2 := hide U2; replace X12 := hide X12; replace h82 := hide h82; replace hs2 := hide hs2; clear X2 m2 ub2 z2)
    | (go_at_call 21; (with_reducible refine hs2.out.mono ?_); rintro e w3 ⟨rfl, hL⟩
       obtain ⟨c3, a3, S3, U3, hu3, X3, hwb3, hS3⟩ := hL
       have hS3 := hS3.symm
       subst hS3
       have h83 := X3.keep0 h82.out.1 h82.out.2
       have X13 := X12.out.trans X3
       have hr3 := hr.out.mod X13.mod (fun ad e k => by obtain rfl := Option.some.inj e; exact k hab.out)
       have hp3 := hpa.out w3 hr3
       replace U3 := hide U3; replace hu3 := hide hu3; replace X13 := hide X13; replace h83 := hide h83; replace hp3 := hide hp3; replace hwb3 := hide hwb3; clear X3 hr3)
    | (go_at_call 22; (with_reducible refine hp3.out.mono ?_); rintro e w4 ⟨rfl, m4⟩
       have U4 := (U3.out.keep m4).1
       have X14 := X13.out.trans (U3.out.keep m4).2
       have h84 := m4.heap h83.out.1 (fun h => h)
       have c84 := h83.out.2
       replace U4 := hide U4; replace X14 := hide X14; replace h84 := hide h84; replace c84 := hide c84; clear m4)
    | (refine list_al 104 _ new104 rfl rfl ?_
       intro w5 g9 hg9 h95 m5 hz5
       replace hg9 := hide hg9; replace h95 := hide h95; replace m5 := hide m5; replace hz5 := hide hz5)
    | (refine list_al 33 _ new33 rfl rfl ?_
       intro w6 g10 hg10 h106 m6 hz6
       have h96 := m6.heap h95.out (fun h => h)
       replace hg10 := hide hg10; replace h106 := hide h106; replace m6 := hide m6; replace hz6 := hide hz6; replace h96 := hide h96)
    | (refine list_put 104 (.tmp 9) (.tmp 46) rfl rfl g9 (cmA cm) rfl rfl (cmA (cm0 0)) h96.out rfl size104 (cm_one _) ?_
       intro w7 h97 m7
       have h107 := m7.heap h106.out (fun e => by have := hg10.out; have := hg9.out; have := hz5.out; omega)
       replace h97 := hide h97; replace m7 := hide m7; replace h107 := hide h107)
    | (refine list_put 33 (.tmp 10) (.tmp 47) rfl rfl g10 (seA 0 0 0 false) rfl rfl (seA 0 0 0 false) h107.out rfl size33 (se_one _ _ _ _) ?_
       intro w8 h108 m8
       have h98 := m8.heap h97.out (fun e => by have := hg10.out; have := hg9.out; have := hz5.out; omega)
       have M48 : Mod (fun _ => False) w4 w8 := ((m5.out.trans m6.out (fun _ _ h => h)).trans m7.out (fun i hi e => by have := hg9.out; omega)).trans m8 (fun i hi e => by have := hg10.out; have := hz5.out; have := hg9.out; omega)
       have U8 := (U4.out.keep M48).1
       have X18 := X14.out.trans (U4.out.keep M48).2
       have h88 := M48.heap h84.out (fun h => h)
       have c98 : c3 g9 = 0 := U4.out.sup _ (by have := hg9.out; omega)
       obtain ⟨-, -, -, -, k9, -, -, -, -⟩ := U8.cells
       rw [hu3.out] at k9
       have kk : w8.cell? ⟨g9, 0, none⟩ = some (.int .u8 cm.kind) := CM.c0 h98
       have hpk := U8.peekx n h8
       have kk := kk
       rw [hkd] at kk
       replace h108 := hide h108; replace h98 := hide h98; replace M48 := hide M48; replace U8 := hide U8; replace X18 := hide X18; replace h88 := hide h88; replace c98 := hide c98; replace hpk := hide hpk)
    | (go_at_call 23; (with_reducible refine hpk.out.mono ?_); rintro e w9 ⟨code9, b9, rfl, m9⟩
       have U9 := (U8.out.keep m9).1
       have X19 := X18.out.trans (U8.out.keep m9).2
       have h89 := m9.heap h88.out (fun h => h)
       have h99 : CM w9 g9 cm := m9.heap h98.out (fun h => h)
       replace U9 := hide U9; replace X19 := hide X19; replace h89 := hide h89; replace h99 := hide h99; clear m9; cases b9))
  all_goals
    obtain ⟨-, -, -, q8, -, -, -, -, -⟩ := U9.out.cells
    rw [hu3.out] at q8
    have s0 : w9.cell? ⟨g9, 0, none⟩ = some (.int .u8 k) := by rw [h99.out.c0, hkd]
    have hS : ∀ W, Mod (fun _ => False) w9 W → W.cell? ⟨u, 8, none⟩ = some (.pointer (some ⟨a3.tb, 0, none⟩)) ∧ W.cell? ⟨g9, 0, none⟩ = some (.int .u8 k) := fun W m => ⟨m.cell q8 (fun h => h), m.cell s0 (fun h => h)⟩
    clear q8 s0
    have hcla := fun W => class_any k cls hcl.out W
    have hco9 := fun W (m : Mod (fun _ => False) w9 W) => hcon.out c3 W a3 (U9.out.keep m).1
    replace hS := hide hS; replace hcla := hide hcla; replace hco9 := hide hco9
    go_region_held3 (fun w' => w'.cell? ⟨u, 8, none⟩ = some (.pointer (some ⟨a3.tb, 0, none⟩)) ∧ w'.cell? ⟨g9, 0, none⟩ = some (.int .u8 k))
      (first | exact hS.out _ ((Mod.refl _ w9).drew) | exact hS.out _ M910.out)
      (first
      | (go_at_call 17; (with_reducible refine (hcla.out _).mono ?_); rintro e w' ⟨rfl, rfl⟩)
      | (go_at_call 25; (with_reducible refine (hco9.out _ ((Mod.refl _ w9).drew)).mono ?_); rintro e w10 ⟨rfl, m10⟩
         have M910 : Mod (fun _ => False) w9 w10 := ((Mod.refl _ w9).drew).trans m10 (fun _ _ h => h)
         replace M910 := hide M910; clear m10))
    have U10 := (U9.out.keep M910.out).1
    have X110 := X19.out.trans (U9.out.keep M910.out).2
    have h810 := M910.out.heap h89.out (fun h => h)
    have h910 : CM w10 g9 cm := M910.out.heap h99.out (fun h => h)
    obtain ⟨-, -, r7, -, -, -, -, -, -⟩ := U10.cells
    rw [hu3.out] at r7
    have s0 : w10.cell? ⟨g9, 0, none⟩ = some (.int .u8 k) := by rw [h910.c0, hkd]
    replace U10 := hide U10; replace X110 := hide X110; replace h810 := hide h810; replace h910 := hide h910
    have hala := fun W => alters_any k false hal.out W
    have hru10 := fun W (m : Mod (fun _ => False) w10 W) => hrun.out c3 W a3 (U10.out.keep m).1 (by rw [hu3.out]) hwb3.out (X110.out.trans (U10.out.keep m).2)
    replace hala := hide hala; replace hru10 := hide hru10
    go_wp2_with (first
      | (go_at_call 26; (with_reducible refine (hala.out _).mono ?_); rintro e w' ⟨rfl, rfl⟩)
      | (refine list_whole 104 (.tmp 9) rfl rfl ⟨g9, 0, none⟩ (cmA cm) rfl (load_whole h910.out Tryz.underlying104 rfl size104) ?_
         have hru := hru10.out w10 (Mod.refl _ _)
         have h811 := h810.out
         have X111 := X110.out
         have M11 : Mod (fun _ => False) w10 w10 := Mod.refl _ _
         replace h811 := hide h811; replace hru := hide hru; replace X111 := hide X111; replace M11 := hide M11)
      | (go_at_call 28; (with_reducible refine hru.out.mono ?_); rintro e w12 ⟨st, key, code, info, has, A, dn, dc, D, c12, a12, S12, rfl, hrow, hown, U12, hu12, X12, hRR⟩
         have h812 := X12.keep0 h811.out c84.out
         replace hrow := hide hrow; replace hown := hide hown; replace U12 := hide U12; replace hu12 := hide hu12; replace hRR := hide hRR; replace h812 := hide h812; replace X12 := hide X12)
      | (refine list_put 35 (.tmp 8) (.tmp 116) rfl rfl g8 (rcA st key code info has (.slice A dn dc)) rfl rfl zs35 h812.out.1 rfl size35 (rc_one _ _ _ _ _ _ _ _) ?_
         intro w13 h13 m13; replace h13 := hide h13; replace m13 := hide m13))
    have U13 := U12.out.mod m13.out (fun k e => by rw [e]; exact h812.out.2)
    have X113 := (X111.out.trans X12.out).own m13.out (by rw [hg8.out]; exact Nat.le_refl _) h.out.big
    have hs11 := X111.out.mod.size
    have hl8 := (Array.getElem?_eq_some_iff.1 h811.out).1
    exact bodyPost_ret (v := rsA st key code info has (.slice A dn dc)) (results_one rfl rfl (load_whole h13.out Tryz.underlying35 rfl size35)) rfl ⟨st, key, code, info, has, A, dn, dc, D, c12, a12, S12, rfl, hrow.out.mod m13.out (fun k hk e => by
      have := (hown.out k hk).1
      omega), fun k hk => ⟨Nat.le_trans hs11 (hown.out k hk).1, (hown.out k hk).2⟩, U13, hu12.out, X113, hRR.out⟩
end Go.Proofs.YtjkpelbhhapebaaGreatDoor
namespace Go.Proofs.YtjkpelbhhapebaaGreatDoor
open Go.RowKit
open W (Nxt)
set_option maxRecDepth 100000
theorem popL_nil : popL [] = [] := rfl
theorem put_same (L : Nat → List Int) (n : Nat) (l : List Int) (h : L n = l) : A.put L n l = L := by
  funext i
  unfold A.put
  split
  · rename_i e; rw [e]; exact h.symm
  · rfl
theorem UN.nextx {B : Nat} {c : Nat → Nat} {w : World} {a : UA} {S : US} {mu : Int} (h : UN B c w a S mu) (n : Nat) (h8 : n < 8) :
    Calls Tryz.prog 24 #[.pointer (some ⟨a.qb, 0, none⟩), .int .i64 n] w fun e w' => ∃ c' code b, e = .returned (.tuple #[.int .u16 code, .bool b]) ∧ UN B c' w' a { S with L := A.put S.L n (popL (S.L n)) } mu ∧ UX B c c' w w' := by
  rcases Nat.eq_zero_or_pos (S.L n).length with h0 | h0
  · have hn := List.eq_nil_of_length_eq_zero h0
    refine (h.next0 n h8 hn).mono fun e w' ⟨e1, e2⟩ => ⟨c, _, _, e1, ?_, (h.keep e2).2⟩
    rw [hn, popL_nil, put_same S.L n [] hn]
    exact (h.keep e2).1
  · exact (h.next1 n h8 h0).mono fun e w' ⟨c', e1, e2, e3⟩ => ⟨c', _, _, e1, e2, e3⟩
set_option maxHeartbeats 8000000 in
theorem run_rs (B : Nat) (c : Nat → Nat) (a : UA) (S : US) (n : Nat) (P : Value) (w : World) (h : UN B c w a S 0) (h8 : n < 8) :
    Calls Tryz.prog 28 #[.pointer (some ⟨a.u, 0, none⟩), .int .i64 n, .agg (cmA cmR), P] w (ResP B c w a.u fun _ _ _ _ _ _ a2 S2 => a2.wb = a.wb ∧ S2 = { S with L := A.put S.L n (popL (S.L n)) }) := by
  obtain ⟨u, hu⟩ : ∃ u, u = a.u := ⟨_, rfl⟩
  rw [← hu]
  have hf0 := fun W => fixed_any 0 0 (.inl rfl) W
  have hf6 := fun code W => fixed_any 6 code (.inr rfl) W
  replace h := hide h; replace hu := hide hu; replace hf0 := hide hf0; replace hf6 := hide hf6
  go_enter Tryz.func28, Tryz.ntmps28
  go_wp2_with (first
    | (refine list_box 104 (.tmp 2) rfl rfl (cmA cmR) rfl ?_
       intro w1 g hg hcm1 m1 hz
       have hcm1 : CM w1 g cmR := hcm1
       replace hcm1 := hide hcm1; replace m1 := hide m1; replace hz := hide hz; replace hg := hide hg)
    | ((with_reducible refine list_al 35 _ new35' ?_ ?_ ?_)
       exact rfl
       exact rfl
       intro w2 g8 hg8 h82 m2 hz2
       have m02 : Mod (fun _ => False) w w2 := m1.out.trans m2 (fun _ _ h => h)
       have hcm2 : CM w2 g cmR := hcm1.out.mod m2 (fun h => h)
       have k0 : w2.cell? ⟨g, 0, none⟩ = some (.int .u8 2) := hcm2.c0
       replace hg8 := hide hg8; replace h82 := hide h82; replace m2 := hide m2; replace hz2 := hide hz2; replace m02 := hide m02; replace hcm2 := hide hcm2)
    | ((with_reducible refine list_al 33 _ new33 ?_ ?_ ?_)
       exact rfl
       exact rfl
       intro w3 g9 hg9 h93 m3 hz3
       replace hg9 := hide hg9; replace h93 := hide h93; replace m3 := hide m3; replace hz3 := hide hz3)
    | ((with_reducible refine list_put 33 (.tmp 9) (.tmp 26) ?_ ?_ g9 (seA 0 0 0 false) ?_ ?_ (seA 0 0 0 false) h93.out ?_ ?_ ?_ ?_)
       exact rfl
       exact rfl
       exact rfl
       exact rfl
       exact rfl
       exact size33
       exact se_one _ _ _ _
       intro w4 h94 m4
       have m24 : Mod (fun _ => False) w2 w4 := m3.out.trans m4 (fun k hk e => by have := hg9.out; omega)
       have U4 := h.out.keep (m02.out.trans m24 (fun _ _ e => e))
       obtain ⟨-, -, -, -, d9, -, -, -, -⟩ := U4.1.cells
       rw [← hu.out] at d9
       have hcm4 := hcm2.out.mod m24 (fun e => e)
       have h84 := m24.heap h82.out (fun e => e)
       have hnx := U4.1.nextx n h8
       replace h94 := hide h94; replace m24 := hide m24; replace U4 := hide U4; replace hcm4 := hide hcm4; replace h84 := hide h84; replace hnx := hide hnx; clear m4)
    | (go_at_call 24; (with_reducible refine hnx.out.mono ?_); rintro e w5 ⟨c5, code, b, rfl, U5, X5⟩
       have cg : c g = 0 := h.out.sup _ (by have := hg.out; omega)
       have cg8 : c g8 = 0 := h.out.sup _ (by have := hg8.out; have := m1.out.size; omega)
       have cg9 : c g9 = 0 := h.out.sup _ (by have := hg9.out; have := m02.out.size; omega)
       have h95 := X5.keep0 h94.out cg9
       have h85 := X5.keep0 h84.out cg8
       have hcm5 := X5.keep0 hcm4.out cg
       have l1 : w5.cell? ⟨g, 1, none⟩ = some (.bool false) := CM.at_ (c := cmR) hcm5.1 1
       have l4 : w5.cell? ⟨g, 4, none⟩ = some (.int .i64 18) := CM.at_ (c := cmR) hcm5.1 4
       have X05 := U4.out.2.trans X5
       have gg9 : ¬ g = g9 := by have := hg9.out; have := m02.out.size; have := hz.out; have := m2.out.size; omega
       have gg8 : g8 < w5.heap.size := (Array.getElem?_eq_some_iff.1 h85.1).1
       have g89 : ¬ g8 = g9 := by have := hg9.out; have := hz2.out; omega
       replace U5 := hide U5; replace X05 := hide X05; replace h95 := hide h95; replace h85 := hide h85; replace hcm5 := hide hcm5; clear X5
       cases b)
    | ((with_reducible refine list_put 33 (.tmp 9) (.tmp 38) ?_ ?_ g9 (seA 6 code 0 false) ?_ ?_ (seA 0 0 0 false) h95.out.1 ?_ ?_ ?_ ?_)
       exact rfl
       exact rfl
       exact rfl
       exact rfl
       exact rfl
       exact size33
       exact se_one _ _ _ _
       intro w6 h96 m6
       have l16 := m6.cell l1 (fun e => gg9 e)
       have l46 := m6.cell l4 (fun e => gg9 e)
       have h86 := m6.heap h85.out.1 (fun e => g89 e)
       replace h96 := hide h96; replace m6 := hide m6; replace h86 := hide h86)
    | ((with_reducible refine list_whole 33 (.tmp 9) ?_ ?_ ⟨g9, 0, none⟩ (seA 6 code 0 false) ?_ ?_ ?_)
       exact rfl
       exact rfl
       exact rfl
       exact load_whole h96.out Tryz.underlying33 rfl size33
       skip)
    | ((with_reducible refine list_whole 33 (.tmp 9) ?_ ?_ ⟨g9, 0, none⟩ (seA 0 0 0 false) ?_ ?_ ?_)
       exact rfl
       exact rfl
       exact rfl
       exact load_whole h95.out.1 Tryz.underlying33 rfl size33
       skip)
    | (go_at_call 52; (with_reducible refine (hf6.out code w6).mono ?_); rintro e w7 ⟨g7, D, rfl, hrow7, hlo7, m7⟩
       have l17 := m7.cell l16 (fun e => e)
       have l47 := m7.cell l46 (fun e => e)
       have U7 := (U5.out.mod m6.out (fun k e => by rw [e]; exact h95.out.2)).keep m7
       have X07 := (X05.out.own m6.out (by have := hg9.out; have := m02.out.size; omega) h.out.big).trans U7.2
       have h87 := m7.heap h86.out (fun e => e)
       have hct := cut_any ⟨g7, 0, none⟩ 18 18 18 D w7 (hrow7.rd (ic_len _) rfl) (by decide) (by decide) (by decide)
       replace hrow7 := hide hrow7; replace m7 := hide m7; replace U7 := hide U7; replace X07 := hide X07; replace h87 := hide h87; replace hct := hide hct)
    | (go_at_call 52; (with_reducible refine (hf0.out w5).mono ?_); rintro e w7 ⟨g7, D, rfl, hrow7, hlo7, m7⟩
       have l17 := m7.cell l1 (fun e => e)
       have l47 := m7.cell l4 (fun e => e)
       have U7 := U5.out.keep m7
       have X07 := X05.out.trans U7.2
       have h87 := m7.heap h85.out.1 (fun e => e)
       have hct := cut_any ⟨g7, 0, none⟩ 18 18 18 D w7 (hrow7.rd (ic_len _) rfl) (by decide) (by decide) (by decide)
       replace hrow7 := hide hrow7; replace m7 := hide m7; replace U7 := hide U7; replace X07 := hide X07; replace h87 := hide h87; replace hct := hide hct)
    | (go_at_call 54; (with_reducible refine hct.out.mono ?_); rintro e w8 ⟨A8, n8, p8, rfl, hrow8, hown8, m8⟩
       have U8 := U7.out.1.keep m8
       have X08 := X07.out.trans U8.2
       have h88 := m8.heap h87.out (fun e => e)
       have lo8 : w.heap.size ≤ w7.heap.size := X07.out.mod.size
       replace hrow8 := hide hrow8; replace hown8 := hide hown8; replace m8 := hide m8; replace U8 := hide U8; replace X08 := hide X08; replace h88 := hide h88)
    | ((with_reducible refine list_put 35 (.tmp 8) (.tmp 55) ?_ ?_ g8 (rcA 0 0 0 0 false (.slice A8 n8 p8)) ?_ ?_ zs35 h88.out ?_ ?_ ?_ ?_)
       exact rfl
       exact rfl
       exact rfl
       exact rfl
       exact rfl
       exact size35
       exact rc_one _ _ _ _ _ _ _ _
       intro w9 h13 m13
       replace h13 := hide h13; replace m13 := hide m13))
  all_goals
    have lo88 : w.heap.size ≤ g8 := by have := hg8.out; have := m1.out.size; omega
    have hl8 : g8 < w7.heap.size := (Array.getElem?_eq_some_iff.1 h87.out).1
    exact bodyPost_ret (v := rsA 0 0 0 0 false (.slice A8 n8 p8)) (results_one rfl rfl (load_whole h13.out Tryz.underlying35 rfl size35)) rfl ⟨0, 0, 0, 0, false, A8, n8, p8, _, c5, a, _, rfl, hrow8.out.mod m13.out (fun k hk e => by have := hown8.out k hk; omega), fun k hk => ⟨Nat.le_trans lo8 (hown8.out k hk), U7.out.1.sup k (hown8.out k hk)⟩, U8.out.1.mod m13.out (fun k e => by rw [e]; exact h85.out.2), hu.out.symm, X08.out.own m13.out lo88 h.out.big, rfl, rfl⟩
set_option maxHeartbeats 4000000 in
theorem run_pr (B : Nat) (c : Nat → Nat) (a : UA) (S : US) (n : Nat) (sv ty : Int) (P : Value) (w : World) (h : UN B c w a S 0) (RR : Int → Int → Int → Int → Bool → List Int → UA → US → Prop)
    (hdo : ∀ W, Mod (fun _ => False) w W → Calls Tryz.prog 61 #[.pointer (some ⟨a.u, 0, none⟩), .int .i64 n, .agg (cmA (cmP sv ty)), P] W (ResP B c W a.u RR)) :
    Calls Tryz.prog 28 #[.pointer (some ⟨a.u, 0, none⟩), .int .i64 n, .agg (cmA (cmP sv ty)), P] w (ResP B c w a.u RR) := by
  obtain ⟨u, hu⟩ : ∃ u, u = a.u := ⟨_, rfl⟩
  rw [← hu] at hdo ⊢
  replace h := hide h; replace hu := hide hu; replace hdo := hide hdo
  go_enter Tryz.func28, Tryz.ntmps28
  go_wp2_with (first
    | (refine list_box 104 (.tmp 2) rfl rfl (cmA (cmP sv ty)) rfl ?_
       intro w1 g hg hcm1 m1 hz
       have hcm1 : CM w1 g (cmP sv ty) := hcm1
       replace hcm1 := hide hcm1; replace m1 := hide m1; replace hz := hide hz; replace hg := hide hg)
    | ((with_reducible refine list_al 35 _ new35' ?_ ?_ ?_)
       exact rfl
       exact rfl
       intro w2 g8 hg8 h82 m2 hz2
       have m02 : Mod (fun _ => False) w w2 := m1.out.trans m2 (fun _ _ h => h)
       have hcm2 : CM w2 g (cmP sv ty) := hcm1.out.mod m2 (fun h => h)
       have k0 : w2.cell? ⟨g, 0, none⟩ = some (.int .u8 16) := hcm2.c0
       have hdo2 := hdo.out w2 m02
       have c8 : c g8 = 0 := h.out.sup _ (by have := m1.out.size; omega)
       replace hg8 := hide hg8; replace h82 := hide h82; replace m2 := hide m2; replace hz2 := hide hz2; replace m02 := hide m02; replace hcm2 := hide hcm2; replace hdo2 := hide hdo2; replace c8 := hide c8)
    | ((with_reducible refine list_whole 104 (.tmp 6) ?_ ?_ ⟨g, 0, none⟩ (cmA (cmP sv ty)) ?_ ?_ ?_)
       exact rfl
       exact rfl
       exact rfl
       exact load_whole hcm2.out Tryz.underlying104 rfl size104
       skip)
    | (go_at_call 61; (with_reducible refine hdo2.out.mono ?_); rintro e w12 ⟨st, key, code, info, has, A, dn, dc, D, c12, a12, S12, rfl, hrow, hown, U12, hu12, X12, hRR⟩
       have h812 := X12.keep0 h82.out c8.out
       replace hrow := hide hrow; replace hown := hide hown; replace U12 := hide U12; replace hu12 := hide hu12; replace hRR := hide hRR; replace h812 := hide h812; replace X12 := hide X12)
    | ((with_reducible refine list_put 35 (.tmp 8) (.tmp 136) ?_ ?_ g8 (rcA st key code info has (.slice A dn dc)) ?_ ?_ zs35 h812.out.1 ?_ ?_ ?_ ?_)
       exact rfl
       exact rfl
       exact rfl
       exact rfl
       exact rfl
       exact size35
       exact rc_one _ _ _ _ _ _ _ _
       intro w13 h13 m13; replace h13 := hide h13; replace m13 := hide m13))
  have hg8w : w.heap.size ≤ g8 := by have := hg8.out; have := m1.out.size; omega
  have K := h.out.keep m02.out
  have hl8 := (Array.getElem?_eq_some_iff.1 h82.out).1
  have hs2 := m02.out.size
  exact bodyPost_ret (v := rsA st key code info has (.slice A dn dc)) (results_one rfl rfl (load_whole h13.out Tryz.underlying35 rfl size35)) rfl ⟨st, key, code, info, has, A, dn, dc, D, c12, a12, S12, rfl, hrow.out.mod m13.out (fun k hk e => by
    have := (hown.out k hk).1
    omega), fun k hk => ⟨by have := (hown.out k hk).1; omega, (hown.out k hk).2⟩, U12.out.mod m13.out (fun k e => by rw [e]; exact h812.out.2), hu12.out, (K.2.trans X12.out).own m13.out hg8w h.out.big, hRR.out⟩
end Go.Proofs.YtjkpelbhhapebaaGreatDoor
namespace Go.Proofs.YtjkpelbhhapebaaGreatDoor
open Go.RowKit
open W (Nxt)
set_option maxRecDepth 100000
theorem confB_free (T : Tb) (n : Int) : confB T n 0 = false := by simp [confB]
/-- REQUEST SENSE, from the nexus's side. -/
theorem unit_rs (B : Nat) (c : Nat → Nat) (a : UA) (S : US) (n ab cap : Nat) (P : Value) (w : World) (h : UN B c w a S 0) (hdn : S.done = 1) (h8 : n < 8) (hkd : KindOk S.T.kind) (hrl : S.T.regs.length ≤ 1000000)
    (hr : Rd w 1 (ic .u8) (some ⟨ab, 0, none⟩) 6 rsL) (hab : c ab = 0) (hcap : 6 ≤ cap) :
    Calls Tryz.prog 10 #[.pointer (some ⟨a.u, 0, none⟩), .int .i64 n, .slice (some ⟨ab, 0, none⟩) 6 cap, P] w (ResP B c w a.u fun _ _ _ _ _ _ a2 S2 => a2.wb = a.wb ∧ S2 = { S with L := A.put S.L n (popL (S.L n)) }) :=
  do_free B c a S S n ab 6 cap _ cmR P w h (StC.again B a S hdn) h8 hr (by omega) hab (fun W hr' => parse_rs ab cap W hr' hcap) 2 0 rfl (by decide) (by decide) (by decide) (by decide) (by decide)
    (fun c' W a' U => by have := conf_un U hkd hrl n 0 (.inl rfl); rwa [confB_free] at this) _ (fun c' W a' U e1 e2 _ => by
      rw [← e1]
      exact (run_rs B c' a' S n P W U h8).mono fun e w' hres => by
        obtain ⟨st, key, code, info, has, A, n', cp, Q, c2, a2, S2, r1, r2, r3, r4, r5, r6, r13, r14⟩ := hres
        exact ⟨st, key, code, info, has, A, n', cp, Q, c2, a2, S2, r1, r2, r3, r4, r5, r6, by rw [r13, e2], r14⟩)
/-- PERSISTENT RESERVE OUT, from the nexus's side. -/
theorem unit_pr (B : Nat) (c : Nat → Nat) (a : UA) (S : US) (n : Nat) (sv ty : Int) (ab cap pb pc N : Nat) (pl : List Int) (w : World) (h : UN B c w a S 0) (hdn : S.done = 1) (h8 : n < 8) (hq : S.L n = []) (hk : TOk N S.T) (hN : N ≤ 900) (hsv : 0 ≤ sv ∧ sv ≤ 6) (hty : 0 ≤ ty ∧ ty ≤ 8)
    (hr : Rd w 1 (ic .u8) (some ⟨ab, 0, none⟩) 10 (prL sv ty)) (hab : c ab = 0) (hcap : 10 ≤ cap)
    (hp : Rd w 1 (ic .u8) (some ⟨pb, 0, none⟩) 24 pl) (hpb : c pb = 0) (hpc : 24 ≤ pc) (hb : Bytes pl) (hodd : ∀ i, i < 24 → oddB pl maskL i = 0) (h20 : gi pl 20 = 0) :
    Calls Tryz.prog 10 #[.pointer (some ⟨a.u, 0, none⟩), .int .i64 n, .slice (some ⟨ab, 0, none⟩) 10 cap, .slice (some ⟨pb, 0, none⟩) 24 pc] w (ResP B c w a.u fun _ _ _ _ _ _ a2 S2 => a2.wb = a.wb ∧ ∃ L' T', S2 = { S with L := L', T := T' } ∧ TOk (N + 1) T') :=
  do_run B c a S S n ab 10 cap _ (cmP sv ty) _ w h (StC.again B a S hdn) h8 hr (by omega) hab (fun W hr' => parse_pr sv ty ab cap W hsv hty hr' hcap) 16 0 false rfl (by decide) (by decide) (by decide) (by decide) (by decide) hq
    (fun c' W a' U => by have := conf_un U hk.kind (Nat.le_trans hk.len (by omega)) n 0 (.inl rfl); rwa [confB_free] at this) (by intro e; cases e) _ (fun c' W a' U e1 e2 X => by
      rw [← e1]
      have hpW : Rd W 1 (ic .u8) (some ⟨pb, 0, none⟩) 24 pl := hp.mod X.mod (fun ad e => by cases e; exact fun hh => hh hpb)
      have hpl : pb < w.heap.size := hp.lt0 (by omega)
      exact (run_pr B c' a' S n sv ty _ W U _ (fun W2 m => out_any B c' a' S n sv ty pb pc N pl W2 (U.keep m).1 h8 hsv hk hN (hpW.mod m (fun _ _ e => e)) hpc hb hodd h20 (by rw [X.col pb hpl]; exact hpb))).mono fun e w' hres => by
        obtain ⟨st, key, code, info, has, A, n', cp, Q, c2, a2, S2, r1, r2, r3, r4, r5, r6, r13, r14⟩ := hres
        exact ⟨st, key, code, info, has, A, n', cp, Q, c2, a2, S2, r1, r2, r3, r4, r5, r6, by rw [r13, e2], r14⟩)
/-- What stands between two steps: the table T, block 7 filled with f, at most m codes waiting for nexus n. -/
def RI (K : Nat → Obj → Prop) (B u n m bd N : Nat) (T : Tb) (f : Int) (w0 w : World) : Prop := ∃ c a S D, UN B c w a S 0 ∧ a.u = u ∧ S.prot = 0 ∧ S.done = 1 ∧ S.now.c = false ∧ Wel S D ∧ (D 7).d = sixt [] f 16 ∧ S.bd ≤ bd ∧ S.T = T ∧ TOk N T ∧ (S.L n).length ≤ m ∧ Below B w0 w ∧ B ≤ w.heap.size ∧ ∀ g o, K g o → c g = 0 ∧ w.heap[g]? = some o
/-- What is kept, and what was made since. -/
def KX (K : Nat → Obj → Prop) (w W : World) (k : Nat) (p : Obj) : Prop := K k p ∨ (w.heap.size ≤ k ∧ W.heap[k]? = some p)
section
variable {K : Nat → Obj → Prop} {B u n m bd N : Nat} {T : Tb} {f : Int} {w0 w W : World}
theorem RI.bel (h : RI K B u n m bd N T f w0 w) : Below B w0 w := by
  obtain ⟨c, a, S, D, h1, h2, h3, h4, h5, h6, h7, h8, h9, h10, h11, h12, h13, hK⟩ := h
  exact h12
theorem RI.ok (h : RI K B u n m bd N T f w0 w) : TOk N T := by
  obtain ⟨c, a, S, D, h1, h2, h3, h4, h5, h6, h7, h8, h9, h10, h11, h12, h13, hK⟩ := h
  exact h10
theorem RI.keep (h : RI K B u n m bd N T f w0 w) (mo : Mod (fun _ => False) w W) : RI K B u n m bd N T f w0 W := by
  obtain ⟨c, a, S, D, h1, h2, h3, h4, h5, h6, h7, h8, h9, h10, h11, h12, h13, hK⟩ := h
  exact ⟨c, a, S, D, (h1.keep mo).1, h2, h3, h4, h5, h6, h7, h8, h9, h10, h11, h12.trans (mo.below h13 (fun _ h => h.elim)), Nat.le_trans h13 mo.size, fun g o k => ⟨(hK g o k).1, mo.heap (hK g o k).2 (fun e => e)⟩⟩
theorem RI.more (h : RI K B u n m bd N T f w0 w) (mo : Mod (fun _ => False) w W) (g : Nat) (o : Obj) (hg : w.heap.size ≤ g) (ho : W.heap[g]? = some o) : RI (fun k p => k = g ∧ p = o) B u n m bd N T f w0 W := by
  obtain ⟨c, a, S, D, h1, h2, h3, h4, h5, h6, h7, h8, h9, h10, h11, h12, h13, -⟩ := h
  exact ⟨c, a, S, D, (h1.keep mo).1, h2, h3, h4, h5, h6, h7, h8, h9, h10, h11, h12.trans (mo.below h13 (fun _ h => h.elim)), Nat.le_trans h13 mo.size, fun k p e => by rw [e.1, e.2]; exact ⟨h1.sup g hg, ho⟩⟩
theorem RI.less (h : RI K B u n m bd N T f w0 w) : RI (fun _ _ => False) B u n m bd N T f w0 w := by
  obtain ⟨c, a, S, D, h1, h2, h3, h4, h5, h6, h7, h8, h9, h10, h11, h12, h13, -⟩ := h
  exact ⟨c, a, S, D, h1, h2, h3, h4, h5, h6, h7, h8, h9, h10, h11, h12, h13, fun _ _ e => e.elim⟩
theorem RI.at_ (h : RI K B u n m bd N T f w0 w) (g : Nat) (o : Obj) (k : K g o) : w.heap[g]? = some o := by
  obtain ⟨c, a, S, D, h1, h2, h3, h4, h5, h6, h7, h8, h9, h10, h11, h12, h13, hK⟩ := h
  exact (hK g o k).2
theorem RI.sub (h : RI K B u n m bd N T f w0 w) (K2 : Nat → Obj → Prop) (hs : ∀ g o, K2 g o → K g o) : RI K2 B u n m bd N T f w0 w := by
  obtain ⟨c, a, S, D, h1, h2, h3, h4, h5, h6, h7, h8, h9, h10, h11, h12, h13, hK⟩ := h
  exact ⟨c, a, S, D, h1, h2, h3, h4, h5, h6, h7, h8, h9, h10, h11, h12, h13, fun g o k => hK g o (hs g o k)⟩
theorem RI.put (h : RI K B u n m bd N T f w0 w) (g : Nat) (o : Obj) (k : K g o) (hB : B ≤ g) (mo : Mod (fun j => j = g) w W) : RI (fun j p => K j p ∧ j ≠ g) B u n m bd N T f w0 W := by
  obtain ⟨c, a, S, D, h1, h2, h3, h4, h5, h6, h7, h8, h9, h10, h11, h12, h13, hK⟩ := h
  exact ⟨c, a, S, D, h1.mod mo (fun j e => by rw [e]; exact (hK g o k).1), h2, h3, h4, h5, h6, h7, h8, h9, h10, h11, h12.trans (mo.below h13 (fun j e => by rw [e]; exact hB)), Nat.le_trans h13 mo.size, fun j p e => ⟨(hK j p e.1).1, mo.heap (hK j p e.1).2 e.2⟩⟩
theorem RI.big (h : RI K B u n m bd N T f w0 w) : B ≤ w.heap.size := by
  obtain ⟨c, a, S, D, h1, h2, h3, h4, h5, h6, h7, h8, h9, h10, h11, h12, h13, hK⟩ := h
  exact h13
theorem RI.nex (h : RI K B u n m bd N T f w0 w) (n' : Nat) (h8 : n' < 8) : RI K B u n' 8 bd N T f w0 w := by
  obtain ⟨c, a, S, D, h1, h2, h3, h4, h5, h6, h7, h8', h9, h10, h11, h12, h13, hK⟩ := h
  obtain ⟨F, hQ, -⟩ := h1.qu
  exact ⟨c, a, S, D, h1, h2, h3, h4, h5, h6, h7, h8', h9, h10, hQ.len8 n' h8, h12, h13, hK⟩
theorem RI.mono (h : RI K B u n m bd N T f w0 w) {bd' N' : Nat} (hb : bd ≤ bd') (hN : N ≤ N') : RI K B u n m bd' N' T f w0 w := by
  obtain ⟨c, a, S, D, h1, h2, h3, h4, h5, h6, h7, h8, h9, h10, h11, h12, h13, hK⟩ := h
  exact ⟨c, a, S, D, h1, h2, h3, h4, h5, h6, h7, Nat.le_trans h8 hb, h9, h10.mono hN, h11, h12, h13, hK⟩
theorem put_at (L : Nat → List Int) (n : Nat) (l : List Int) : A.put L n l n = l := by simp [A.put]
theorem popL_len (l : List Int) (k : Nat) (h : l.length ≤ k) : (popL l).length ≤ k - 1 := by
  rcases Nat.eq_zero_or_pos l.length with h0 | h0
  · rw [List.eq_nil_of_length_eq_zero h0]; exact Nat.zero_le _
  · have hf := A.fi_lt l l.length
    have h1 := hf.2.2 h0
    have h2 := hf.1
    have := A.cut_length (l := l) (i := (A.fi l l.length).toNat) (by omega)
    unfold popL
    omega
theorem put_len (L : Nat → List Int) (n m : Nat) (h : (L n).length ≤ m) : (A.put L n (popL (L n)) n).length ≤ m - 1 := by rw [put_at]; exact popL_len _ _ h
theorem RI.rs (h : RI K B u n m bd N T f w0 w) (hN : N ≤ 900) (ab : Nat) (h8 : n < 8) (mo : Mod (fun _ => False) w W) (hr : Rd W 1 (ic .u8) (some ⟨ab, 0, none⟩) 6 rsL) (hab : w.heap.size ≤ ab) :
    Calls Tryz.prog 10 #[.pointer (some ⟨u, 0, none⟩), .int .i64 n, .slice (some ⟨ab, 0, none⟩) 6 6, .slice none 0 0] W fun e w' => ∃ st key code info has A n' cp, e = .returned (rsA st key code info has (.slice A n' cp)) ∧ RI K B u n (m - 1) bd N T f w0 w' := by
  obtain ⟨c, a, S, D, h1, rfl, h3, h4, h5, h6, h7, h8', rfl, h10, h11, h12, h13, hK⟩ := h
  have hk := h1.keep mo
  refine (unit_rs B c a S n ab 6 (.slice none 0 0) W hk.1 h4 h8 h10.kind (Nat.le_trans h10.len (by omega)) hr (h1.sup ab hab) (by decide)).mono ?_
  rintro e w' ⟨st, key, code, info, has, A, n', cp, Q, c2, a2, S2, rfl, -, -, U2, hu2, X2, -, rfl⟩
  exact ⟨st, key, code, info, has, A, n', cp, rfl, c2, a2, _, D, U2, hu2, h3, h4, h5, h6, h7, h8', rfl, h10, put_len S.L n m h11,
    (h12.trans (mo.below h13 (fun _ h => h.elim))).trans X2.bel, Nat.le_trans h13 (Nat.le_trans mo.size X2.mod.size), fun g o k => (X2.keep0 (mo.heap (hK g o k).2 (fun e => e)) (hK g o k).1).symm⟩
theorem RI.pr (h : RI K B u n 0 bd N T f w0 w) (hN : N ≤ 900) (sv ty : Int) (ab pb : Nat) (pl : List Int) (h8 : n < 8) (mo : Mod (fun _ => False) w W) (hr : Rd W 1 (ic .u8) (some ⟨ab, 0, none⟩) 10 (prL sv ty)) (hab : w.heap.size ≤ ab) (hsv : 0 ≤ sv ∧ sv ≤ 6) (hty : 0 ≤ ty ∧ ty ≤ 8)
    (hp : Rd W 1 (ic .u8) (some ⟨pb, 0, none⟩) 24 pl) (hpb : w.heap.size ≤ pb) (hb : Bytes pl) (hodd : ∀ i, i < 24 → oddB pl maskL i = 0) (h20 : gi pl 20 = 0) :
    Calls Tryz.prog 10 #[.pointer (some ⟨u, 0, none⟩), .int .i64 n, .slice (some ⟨ab, 0, none⟩) 10 10, .slice (some ⟨pb, 0, none⟩) 24 24] W fun e w' => ∃ st key code info has A n' cp T', e = .returned (rsA st key code info has (.slice A n' cp)) ∧ RI K B u n 8 bd (N + 1) T' f w0 w' := by
  obtain ⟨c, a, S, D, h1, rfl, h3, h4, h5, h6, h7, h8', rfl, h10, h11, h12, h13, hK⟩ := h
  have hk := h1.keep mo
  refine (unit_pr B c a S n sv ty ab 10 pb 24 N pl W hk.1 h4 h8 (List.eq_nil_of_length_eq_zero (by omega)) h10 hN hsv hty hr (h1.sup ab hab) (by decide) hp (h1.sup pb hpb) (by decide) hb hodd h20).mono ?_
  rintro e w' ⟨st, key, code, info, has, A, n', cp, Q, c2, a2, S2, rfl, -, -, U2, hu2, X2, -, L', T', rfl, hT'⟩
  obtain ⟨F, hQ, -⟩ := U2.qu
  exact ⟨st, key, code, info, has, A, n', cp, T', rfl, c2, a2, _, D, U2, hu2, h3, h4, h5, h6, h7, h8', rfl, hT', hQ.len8 n h8, (h12.trans (mo.below h13 (fun _ h => h.elim))).trans X2.bel, Nat.le_trans h13 (Nat.le_trans mo.size X2.mod.size), fun g o k => (X2.keep0 (mo.heap (hK g o k).2 (fun e => e)) (hK g o k).1).symm⟩
theorem RI.table (h : RI K B u n m bd N T f w0 w) (hN : N ≤ 900) :
    Calls Tryz.prog 14 #[.pointer (some ⟨u, 0, none⟩)] w fun e w' => ∃ A k cp, e = .returned (.tuple #[.slice A k cp, .int .u8 T.kind, .int .i64 (holdT T.kind T.holder)]) ∧ Row w' 50 2 encR (.slice A k cp) T.regs ∧ (∀ b, (Value.slice A k cp).ownBlock = some b → w.heap.size ≤ b) ∧ RI K B u n m bd N T f w0 w' ∧ Mod (fun _ => False) w w' := by
  have h0 := h
  obtain ⟨c, a, S, D, h1, rfl, h3, h4, h5, h6, h7, h8', rfl, h10, h11, h12, h13, hK⟩ := h
  exact (table_any h1 h10.kind (Nat.le_trans h10.len (by omega))).mono fun e w' ⟨v', e1, e2, e3, e4⟩ => by
    obtain ⟨A, k, cp, rfl⟩ := e2.form
    exact ⟨A, k, cp, e1, e2, e4, h0.keep e3, e3⟩
theorem sixt_bytes {f : Int} (hf : 0 ≤ f ∧ f ≤ 255) : Bytes (sixt [] f 16) := by
  intro x hx
  simp only [sixt, List.mem_map, List.mem_range] at hx
  obtain ⟨i, hi, rfl⟩ := hx
  simp [hi, hf]
theorem RI.write (h : RI K B u n 0 bd N T f w0 w) (hbd : bd < 70000) (hN : N ≤ 900) (f' : Int) (hf : 0 ≤ f' ∧ f' ≤ 255) (ab pb : Nat) (h8 : n < 8) (hc : confB T n 2 = false) (mo : Mod (fun _ => False) w W) (hr : Rd W 1 (ic .u8) (some ⟨ab, 0, none⟩) 16 (onB 138 0 7 1)) (hab : w.heap.size ≤ ab)
    (hp : Rd W 1 (ic .u8) (some ⟨pb, 0, none⟩) 16 (sixt [] f' 16)) (hpb : w.heap.size ≤ pb) :
    Calls Tryz.prog 10 #[.pointer (some ⟨u, 0, none⟩), .int .i64 n, .slice (some ⟨ab, 0, none⟩) 16 16, .slice (some ⟨pb, 0, none⟩) 16 16] W fun e w' => ∃ A n' cp, e = .returned (rsA 0 0 0 0 false (.slice A n' cp)) ∧ RI (KX K w W) B u n 0 (bd + 3) N T f' w0 w' := by
  obtain ⟨c, a, S, D, h1, rfl, h3, h4, h5, h6, h7, h8', rfl, h10, h11, h12, h13, hK⟩ := h
  have hk := h1.keep mo
  refine (unit_write B c a S n 7 1 ab 16 pb 16 16 (sixt [] f' 16) W hk.1 h4 h8 (by omega) (List.eq_nil_of_length_eq_zero (by omega)) h10.kind (Nat.le_trans h10.len (by omega)) hc h5 (by decide) (by rw [h3]; decide) hr (h1.sup ab hab) (by decide) hp (h1.sup pb hpb) (by decide) (by decide) (by decide) (by decide) (sixt_bytes hf)).mono ?_
  rintro e w' ⟨st, key, code, info, has, A, n', cp, Q, c2, a2, S2, rfl, -, -, U2, hu2, X2, rfl, rfl, rfl, rfl, rfl, -, -, rfl⟩
  obtain ⟨D2, q1, q2⟩ := cmp_well h6 (by rw [h3]; decide) 7 (by decide) (sixt [] f' 16) (sixt_bytes hf) (sixt_len _ _ _) (false || !S.cache) (S.bd + 2 * 1 + 1)
  exact ⟨A, n', cp, rfl, c2, a2, _, D2, U2, hu2, h3, h4, h5, q1, q2, by show S.bd + 2 * 1 + 1 ≤ _; omega, rfl, h10, h11, (h12.trans (mo.below h13 (fun _ h => h.elim))).trans X2.bel, Nat.le_trans h13 (Nat.le_trans mo.size X2.mod.size), fun g o k => k.elim (fun k => (X2.keep0 (mo.heap (hK g o k).2 (fun e => e)) (hK g o k).1).symm) (fun q => (X2.keep0 q.2 (h1.sup g q.1)).symm)⟩
theorem RI.out (h : RI K B u n 0 bd N T f w0 w) (hN : N ≤ 900) (op kind cls : Int) (ho : (op = 136 ∧ kind = 7 ∧ cls = 1) ∨ (op = 138 ∧ kind = 8 ∧ cls = 2)) (ab : Nat) (P : Value) (h8 : n < 8) (hc : confB T n cls = true) (mo : Mod (fun _ => False) w W) (hr : Rd W 1 (ic .u8) (some ⟨ab, 0, none⟩) 16 (onB op 0 7 1)) (hab : w.heap.size ≤ ab) :
    Calls Tryz.prog 10 #[.pointer (some ⟨u, 0, none⟩), .int .i64 n, .slice (some ⟨ab, 0, none⟩) 16 16, P] W fun e w' => ∃ A n' cp, e = .returned (rsA 24 0 0 0 false (.slice A n' cp)) ∧ RI (KX K w W) B u n 0 bd N T f w0 w' := by
  obtain ⟨c, a, S, D, h1, rfl, h3, h4, h5, h6, h7, h8', rfl, h10, h11, h12, h13, hK⟩ := h
  have hk := h1.keep mo
  refine (unit_out B c a S op kind cls ho n 7 1 ab 16 P W hk.1 h4 h8 (List.eq_nil_of_length_eq_zero (by omega)) h10.kind (Nat.le_trans h10.len (by omega)) hc (by decide) hr (h1.sup ab hab) (by decide)).mono ?_
  rintro e w' ⟨st, key, code, info, has, A, n', cp, Q, c2, a2, S2, rfl, -, -, U2, hu2, X2, rfl, rfl, rfl, rfl, rfl, -, -, rfl⟩
  exact ⟨A, n', cp, rfl, c2, a2, _, D, U2, hu2, h3, h4, h5, h6, h7, h8', rfl, h10, h11, (h12.trans (mo.below h13 (fun _ h => h.elim))).trans X2.bel, Nat.le_trans h13 (Nat.le_trans mo.size X2.mod.size), fun g o k => k.elim (fun k => (X2.keep0 (mo.heap (hK g o k).2 (fun e => e)) (hK g o k).1).symm) (fun q => (X2.keep0 q.2 (h1.sup g q.1)).symm)⟩
theorem RI.read (h : RI K B u n 0 bd N T f w0 w) (hbd : bd < 70000) (hN : N ≤ 900) (ab : Nat) (h8 : n < 8) (hc : confB T n 1 = false) (mo : Mod (fun _ => False) w W) (hr : Rd W 1 (ic .u8) (some ⟨ab, 0, none⟩) 16 (onB 136 0 7 1)) (hab : w.heap.size ≤ ab) :
    Calls Tryz.prog 10 #[.pointer (some ⟨u, 0, none⟩), .int .i64 n, .slice (some ⟨ab, 0, none⟩) 16 16, .slice none 0 0] W fun e w' => ∃ A n' cp, e = .returned (rsA 0 0 0 0 false (.slice A n' cp)) ∧ Row w' 5 1 (ic .u8) (.slice A n' cp) (sixt [] f 16) ∧ RI (KX K w W) B u n 0 (bd + 1) N T f w0 w' := by
  obtain ⟨c, a, S, D, h1, rfl, h3, h4, h5, h6, h7, h8', rfl, h10, h11, h12, h13, hK⟩ := h
  have hk := h1.keep mo
  refine (unit_read2 B c a S D n 7 1 ab 16 0 0 false (.slice none 0 0) W hk.1 h4 h8 h6 (by omega) (List.eq_nil_of_length_eq_zero (by omega)) h10.kind (Nat.le_trans h10.len (by omega)) hc flag0 (by decide) (by rw [h3]; decide) ⟨Int.le_refl _, .inl rfl⟩ hr (h1.sup ab hab) (by decide)).mono ?_
  rintro e w' ⟨st, key, code, info, has, A, n', cp, Q, c2, a2, S2, rfl, hrow, -, U2, hu2, X2, rfl, rfl, rfl, rfl, rfl, rfl, -, rfl⟩
  have e : packL ((0 : Int) != 0) ((List.range 1).map fun i => D (7 + i)) = sixt [] f 16 := by
    rw [← h7]
    exact packL_lone _
  rw [e] at hrow
  exact ⟨A, n', cp, rfl, hrow, c2, a2, _, D, U2, hu2, h3, h4, h5, h6, h7, by show S.bd + 1 ≤ _; omega, rfl, h10, h11, (h12.trans (mo.below h13 (fun _ h => h.elim))).trans X2.bel, Nat.le_trans h13 (Nat.le_trans mo.size X2.mod.size), fun g o k => k.elim (fun k => (X2.keep0 (mo.heap (hK g o k).2 (fun e => e)) (hK g o k).1).symm) (fun q => (X2.keep0 q.2 (h1.sup g q.1)).symm)⟩
end
end Go.Proofs.YtjkpelbhhapebaaGreatDoor
namespace Go.Proofs.YtjkpelbhhapebaaGreatDoor
open Go.RowKit
set_option maxRecDepth 100000
section
variable {w : World} {ops : Array Oper} {o : Oper} {a : Act} {K : Act → World → Prop} {Q : Exit → Act → World → Prop} {E : Prop}
theorem wpo_al (T : TypeId) (zs : Array Value) (hrun : New T zs) (ho : o.op = .alloc T) (hg : o.guard = none)
    (h : ∀ w' g, g = w.heap.size → w'.heap[g]? = some (.cells zs T (0, 0)) → Mod (fun _ => False) w w' → w'.heap.size = g + 1 → K (a.put o.dst (.pointer (some ⟨g, 0, none⟩))) w') :
    if Region.wanted o (yielded ops a.tmps) = true then Oper.wp Tryz.prog o a w K Q else E := by
  have hw : Region.wanted o (yielded ops a.tmps) = true := by simp [Region.wanted, hg]
  rw [if_pos hw]
  have hb := hrun w
  unfold Oper.wp execOp
  simp only [ho]
  simp only [Sem.run_bind, hb, Result.andThen_ok]
  exact h _ _ rfl (heap_alloc_new _ _) ((Mod.refl _ w).alloc _) (by simp)
theorem wpo_put (T : TypeId) (x y : Operand) (ho : o.op = .store T x y) (hg : o.guard = none) (b : Nat) (cells : Array Value) (hx : a.eval x = .pointer (some ⟨b, 0, none⟩)) (hy : a.eval y = .agg cells)
    (zs : Array Value) (hh : w.heap[b]? = some (.cells zs T (0, 0))) (hsz : zs.size = cells.size) (hi : (Tryz.prog.info? T).map (·.size) = some cells.size) (h1 : cells.all (·.oneCell') = true)
    (h : ∀ w', w'.heap[b]? = some (.cells cells T (0, 0)) → Mod (fun k => k = b) w w' → K (a.put o.dst undef) w') :
    if Region.wanted o (yielded ops a.tmps) = true then Oper.wp Tryz.prog o a w K Q else E := by
  have hw : Region.wanted o (yielded ops a.tmps) = true := by simp [Region.wanted, hg]
  rw [if_pos hw]
  refine wp_store_mid T x y ho b 0 cells hx hy (fun j hj => ?_) hi h1 ?_
  · refine ⟨?_, frozen_of_row w b _ zs T hh⟩
    rw [cell_of_row w b (0 + j) zs T (0, 0) hh, Nat.zero_add, Array.getElem?_eq_getElem (by omega)]
    rfl
  · obtain ⟨cs', k1, k2, k3, -, k5⟩ := setCells_heap b T cells.toList 0 w zs hh
    have e : cs' = cells := by
      apply Array.ext
      · omega
      · intro i h1 h2
        have := k3 i (by omega) (by simpa using h2) (by omega)
        rw [Array.getElem?_eq_getElem h1] at this
        simp only [Nat.sub_zero, Array.getElem?_toList] at this
        rw [Array.getElem?_eq_getElem h2] at this
        exact Option.some.inj this
    rw [e] at k1
    exact h _ k1 k5
end
end Go.Proofs.YtjkpelbhhapebaaGreatDoor
