/-
  cdb.Parse, walked once for all commands that are right: its parts' contracts are asked. Laws for structs of any type: a new variable, three results.
-/
import Derived.Test.YtjkpelbhhapebaaGreatDoorCdb
import Derived.Lib.SliceRun
namespace Go.Proofs.YtjkpelbhhapebaaGreatDoor
open Go.RowKit
set_option maxRecDepth 100000
section
variable {w : World} {ops : Array Oper} {rest : List Oper} {o : Oper} {a : Act} {Q : Exit → Act → World → Prop}
/-- A new variable of a type is its zero value's cells. -/
def New (T : TypeId) (zs : Array Value) : Prop := ∀ w : World, (Instr.alloc T true (.tuple #[])).run Tryz.prog w = .ok (.pointer (some ⟨w.heap.size, 0, none⟩)) (w.alloc (.cells zs T))
/-- A variable of its own is made. -/
theorem list_al (T : TypeId) (zs : Array Value) (hrun : New T zs) (ho : o.op = .alloc T) (hg : o.guard = none)
    (h : ∀ w' g, g = w.heap.size → w'.heap[g]? = some (.cells zs T (0, 0)) → Mod (fun _ => False) w w' → w'.heap.size = g + 1 → wpList Tryz.prog ops Q rest (a.put o.dst (.pointer (some ⟨g, 0, none⟩))) w') : wpList Tryz.prog ops Q (o :: rest) a w := by
  refine wpList_plain hg fun _ hK => ?_
  have hb := hrun w
  unfold Oper.wp execOp
  simp only [ho]
  simp only [Sem.run_bind, hb, Result.andThen_ok]
  exact hK _ _ (h _ _ rfl (heap_alloc_new _ _) ((Mod.refl _ w).alloc _) (by simp))
/-- A variable that is known whole is read whole. -/
theorem list_whole (T : TypeId) (x : Operand) (ho : o.op = .load T x) (hg : o.guard = none) (ad : Addr) (cs : Array Value) (hx : a.eval x = .pointer (some ad)) (hl : (loadVar T ad).run Tryz.prog w = .ok (.agg cs) w)
    (h : wpList Tryz.prog ops Q rest (a.put o.dst (.agg cs)) w) : wpList Tryz.prog ops Q (o :: rest) a w :=
  wpList_plain hg fun _ hK => by
    unfold Oper.wp execOp
    simp only [ho, hx, Instr.loadAt, Instr.sureAddr, Sem.run_bind, Sem.run_pure, Result.andThen_ok, hl]
    exact hK _ _ h
end
theorem new104 : New 104 (cmA (cm0 0)) := fun w => by kernel_rfl
theorem new33 : New 33 (seA 0 0 0 false) := fun w => by kernel_rfl
theorem new35' : New 35 zs35 := fun w => by kernel_rfl
theorem size104 : (Tryz.prog.info? 104).map (·.size) = some 15 := by kernel_rfl
theorem size33 : (Tryz.prog.info? 33).map (·.size) = some 8 := by kernel_rfl
theorem cm_one (c : Cm) : (cmA c).all (·.oneCell') = true :=
  all_oneCell_toArray (cs := (cmA c).toList) (fun u hu => by
    simp only [cmA, List.mem_cons, List.not_mem_nil, or_false] at hu
    rcases hu with rfl | rfl | rfl | rfl | rfl | rfl | rfl | rfl | rfl | rfl | rfl | rfl | rfl | rfl | rfl <;> rfl)
theorem se_one (key code info : Int) (has : Bool) : (seA key code info has).all (·.oneCell') = true :=
  all_oneCell_toArray (cs := (seA key code info has).toList) (fun u hu => by
    simp only [List.mem_cons, List.not_mem_nil, or_false] at hu
    rcases hu with rfl | rfl | rfl | rfl | rfl | rfl | rfl | rfl <;> rfl)
/-- Three results, the first two variables of their own, read whole. -/
theorem results_ccs {P : Program} {W : World} {fn : Func} {tmps : Array Value} {i j k : Nat} {T1 T2 : TypeId} {a1 a2 : Addr} {v1 v2 b : Value} (hfn : fn.results = #[.cell i T1, .cell j T2, .tmp k]) (ht1 : tmps.getD i undef = .pointer (some a1)) (ht2 : tmps.getD j undef = .pointer (some a2))
    (hl1 : (loadVar T1 a1).run P W = .ok v1 W) (hl2 : (loadVar T2 a2).run P W = .ok v2 W) (hb : tmps.getD k undef = b) :
    (results fn tmps).run P W = .ok (.tuple #[v1, v2, b]) W := by
  subst hb
  unfold results
  simp only [hfn, List.mapM_toArray, List.mapM_cons, List.mapM_nil, ht1, ht2, asAddr, Sem.run_bind, Sem.run_pure, Result.andThen_ok, hl1, hl2, Sem.run_map, bind_pure_comp, map_pure]
  rfl
theorem Rd.lt0 {w : World} {ab n : Nat} {L : List Int} (h : Rd w 1 (ic .u8) (some ⟨ab, 0, none⟩) n L) (hn : 0 < n) : ab < w.heap.size := World.block_lt_of_cell? w _ (rd_at h 0 hn)
set_option maxHeartbeats 4000000 in
theorem parse_any (op k : Int) (n ab cap : Nat) (L M : List Int) (c : Cm) (w : World) (t1 : (op == 94) = false) (t2 : (op == 95) = false) (t3 : (op == 131) = false) (t4 : (op == 158) = false)
    (hr : Rd w 1 (ic .u8) (some ⟨ab, 0, none⟩) n L) (hn1 : 1 ≤ n) (hn2 : n ≤ cap) (hn3 : n ≤ 1000) (h0 : gi L 0 = op) (hM : M.length = n) (hodd : ∀ i, i < n → oddB L M i = 0)
    (hus : ∀ W, Calls Tryz.prog 45 #[.int .u8 op, .int .u8 0] W (UsA W M true)) (hkd : ∀ W, Calls Tryz.prog 47 #[.int .u8 op] W fun e w' => e = .returned (.int .u8 k) ∧ W = w')
    (hfl : ∀ W g, CM W g (cm0 k) → Rd W 1 (ic .u8) (some ⟨ab, 0, none⟩) n L → ab ≠ g → Calls Tryz.prog 48 #[.pointer (some ⟨g, 0, none⟩), .slice (some ⟨ab, 0, none⟩) n cap, .int .u8 0] W fun e w' => e = .returned (.tuple #[.int .i64 (-1), .int .i64 0]) ∧ CM w' g c ∧ Mod (fun k => k = g) W w') :
    Calls Tryz.prog 22 #[.slice (some ⟨ab, 0, none⟩) n cap] w fun e w' => e = .returned (.tuple #[.agg (cmA c), .agg (seA 0 0 0 false), .bool true]) ∧ Mod (fun _ => False) w w' := by
  have habl := hr.lt0 hn1
  have hsn : ∀ (w : World) (a : Option Addr) (n c n' c' : Nat), (binOp .eql 22 (.slice a n c) (.slice none n' c')).run Tryz.prog w = .ok (.bool a.isNone) w := fun w a n c n' c' => Lib.run_eql_slice_nil w 22 5 a n c n' c' Tryz.underlying22
  have hd0 : ((n : Int) == 0) = false := by simp; omega
  have i0 : (0 : Int) < n := by omega
  have i1 : ¬ ((n : Int) < n) := by omega
  replace hr := hide hr; replace hodd := hide hodd; replace hus := hide hus; replace hkd := hide hkd; replace hfl := hide hfl; replace h0 := hide h0; replace hM := hide hM
  have tok1 : True := trivial
  go_enter Tryz.func22, Tryz.ntmps22
  go_wp2_with (first
    | (have _t := tok1
       refine list_al 104 _ new104 rfl rfl ?_
       clear _t tok1
       intro w1 g1 hg1 hh1 m1 hz1
       replace hg1 := hide hg1; replace hh1 := hide hh1; replace m1 := hide m1; replace hz1 := hide hz1)
    | (refine list_al 33 _ new33 rfl rfl ?_
       intro w2 g2 hg2 hh2 m2 hz2
       have m02 := m1.out.trans m2 (fun _ _ h => h)
       have q0 := rd_at (hr.out.mod m02 (fun _ _ h => h)) 0 (by omega)
       rw [h0.out] at q0
       have us2 := hus.out w2
       replace hg2 := hide hg2; replace hh2 := hide hh2; replace m2 := hide m2; replace hz2 := hide hz2; replace m02 := hide m02; replace us2 := hide us2)
    | (go_at_call 45; (with_reducible refine us2.out.mono ?_); rintro e w3 ⟨A3, c3, rfl, hrow3, m3, own3⟩
       rw [hM.out] at hrow3 own3
       rw [hM.out]
       obtain ⟨mg, mc, e3, -⟩ := hrow3.some_ (by rw [hM.out]; omega)
       rw [hM.out] at e3
       injection e3 with e3 _ e4
       subst e3 e4
       have m03 := m02.out.trans m3 (fun _ _ h => h)
       have hod := odd_none (some ⟨ab, 0, none⟩) (some ⟨mg, 0, none⟩) n cap n c3 L M w3 (hr.out.mod m03 (fun _ _ h => h)) (hrow3.rd (ic_len _) rfl) (by omega) (by omega) hodd.out
       have kd3 := hkd.out w3
       replace hod := hide hod; replace kd3 := hide kd3; replace m03 := hide m03
       replace hrow3 := hide hrow3; replace m3 := hide m3; replace own3 := hide own3)
    | (go_at_call 46; (with_reducible refine hod.out.mono ?_); rintro e w4 ⟨rfl, rfl⟩)
    | (go_at_call 47; (with_reducible refine kd3.out.mono ?_); rintro e w5 ⟨rfl, rfl⟩)
    | (refine list_al 104 _ new104 rfl rfl ?_
       intro w6 g6 hg6 hh6 m6 hz6
       replace hg6 := hide hg6; replace hh6 := hide hh6; replace m6 := hide m6; replace hz6 := hide hz6)
    | (refine list_put 104 (.tmp 11) (.tmp 86) rfl rfl g6 (cmA (cm0 k)) rfl rfl (cmA (cm0 0)) hh6.out rfl size104 (cm_one _) ?_
       intro w7 hh7 m7
       have m07 : Mod (fun _ => False) w w7 := (m03.out.trans m6.out (fun _ _ h => h)).trans m7 (fun i hi e => by
         have := hg6.out
         have := m03.out.size
         omega)
       have hne : ab ≠ g6 := by
         have := hg6.out
         have := m03.out.size
         omega
       have fl7 := hfl.out w7 g6 hh7 (hr.out.mod m07 (fun _ _ h => h)) hne
       replace hh7 := hide hh7; replace m7 := hide m7; replace m07 := hide m07; replace fl7 := hide fl7; replace hne := hide hne)
    | (go_at_call 48; (with_reducible refine fl7.out.mono ?_); rintro e w8 ⟨rfl, hcm8, m8⟩
       have m08 : Mod (fun _ => False) w w8 := m07.out.trans m8 (fun i hi e => by
         have := hg6.out
         have := m03.out.size
         omega)
       have hh18 := m8.heap (m7.out.heap (m6.out.heap (m3.out.heap (m2.out.heap hh1.out (fun h => h)) (fun h => h)) (fun h => h)) (fun e => by
         have := hg6.out
         have := m3.out.size
         have := m2.out.size
         have := hz1.out
         omega)) (fun e => by
         have := hg6.out
         have := m3.out.size
         have := m2.out.size
         have := hz1.out
         omega)
       have hh28 := m8.heap (m7.out.heap (m6.out.heap (m3.out.heap hh2.out (fun h => h)) (fun h => h)) (fun e => by
         have := hg6.out
         have := m3.out.size
         have := hz2.out
         omega)) (fun e => by
         have := hg6.out
         have := m3.out.size
         have := hz2.out
         omega)
       replace hcm8 := hide hcm8; replace m8 := hide m8; replace m08 := hide m08; replace hh18 := hide hh18; replace hh28 := hide hh28)
    | (refine list_whole 104 (.tmp 11) rfl rfl ⟨g6, 0, none⟩ (cmA c) rfl (load_whole hcm8.out Tryz.underlying104 rfl size104) ?_)
    | (refine list_put 104 (.tmp 2) (.tmp 99) rfl rfl g1 (cmA c) rfl rfl (cmA (cm0 0)) hh18.out rfl size104 (cm_one _) ?_
       intro w9 hh9 m9
       have hh29 := m9.heap hh28.out (fun e => by
         have := hg2.out
         have := hz1.out
         omega)
       replace hh9 := hide hh9; replace m9 := hide m9; replace hh29 := hide hh29)
    | (refine list_put 33 (.tmp 3) (.tmp 100) rfl rfl g2 (seA 0 0 0 false) rfl rfl (seA 0 0 0 false) hh29.out rfl size33 (se_one _ _ _ _) ?_
       intro w10 hh10 m10
       have hh19 := m10.heap hh9.out (fun e => by
         have := hg2.out
         have := hz1.out
         omega)
       replace hh10 := hide hh10; replace m10 := hide m10; replace hh19 := hide hh19))
  refine bodyPost_ret (v := .tuple #[.agg (cmA c), .agg (seA 0 0 0 false), .bool true]) (results_ccs rfl rfl rfl (load_whole hh19.out Tryz.underlying104 rfl size104) (load_whole hh10.out Tryz.underlying33 rfl size33) rfl) rfl ⟨rfl, ?_⟩
  have := hg1.out
  have := hg2.out
  have := hz1.out
  exact (m08.out.trans m9.out (fun i hi e => by omega)).trans m10.out (fun i hi e => by omega)
end Go.Proofs.YtjkpelbhhapebaaGreatDoor
