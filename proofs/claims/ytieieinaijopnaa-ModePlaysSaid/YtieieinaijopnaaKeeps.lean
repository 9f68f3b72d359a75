/-
  The walk of ModeKeeps. No condition.
-/
import Derived.Test.YtieieinaijopnaaSel
import Derived.Test.YtieieinaijopnaaOpen
import Derived.Laws.BytesString
namespace Go.Proofs.Ytieieinaijopnaa
open Go.RowKit
/-- Bytes as a string. -/
def strOf (L : List Int) : ByteArray := L.foldl (fun r n => r.push (UInt8.ofNat n.toNat)) ByteArray.empty
theorem conv_str {w : World} {A : Option Addr} {n c : Nat} {L : List Int} (h : Rd w 1 (ic .u8) A n L) : (convert 25 9 (.slice A n c)).run Try.prog w = .ok (.string (strOf L)) w := by
  rw [run_convert_bytes_string w 25 9 5 A n c Try.underlying25 Try.underlying5 Try.underlying9]
  have hn : L.length = n := h.1
  cases A with
  | none =>
    have h0 : n = 0 := by
      rcases Nat.eq_zero_or_pos n with h0 | h0
      · exact h0
      · obtain ⟨ad, e, _⟩ := h.2 0 h0; cases e
    subst h0
    obtain rfl : L = [] := List.eq_nil_of_length_eq_zero hn
    simp [Conv.bytesToString, strOf, Sem.run_pure]
  | some ad =>
    have hl := run_loadCells_list (P := Try.prog) w ad (L.map (Value.int .u8)) (fun j u hu => by
      rw [List.getElem?_map] at hu
      obtain ⟨x, hx, rfl⟩ := Option.map_eq_some_iff.1 hu
      have hj : j < n := by rw [← hn]; exact (List.getElem?_eq_some_iff.1 hx).1
      obtain ⟨ad', e, hc⟩ := h.int j hj
      obtain rfl := Option.some.inj e
      rw [hc, gi_eq L j (by omega), (List.getElem?_eq_some_iff.1 hx).2])
    rw [List.length_map, hn] at hl
    exact run_bytesToString w ad n c L hl
section
variable {P : Program} {ops : Array Oper} {rest : List Oper} {o : Oper} {a : Act} {w : World} {Q : Exit → Act → World → Prop}
theorem load_cmd (c : C) (x : Operand) (g : Nat) (ho : o.op = .load 36 x) (hg : o.guard = none) (hx : a.eval x = .pointer (some ⟨g, 0, none⟩)) (hh : w.heap[g]? = some (.cells (cc c) 36 (0, 0)))
    (h : wpList Try.prog ops Q rest (a.put o.dst (.agg (cc c))) w) : wpList Try.prog ops Q (o :: rest) a w :=
  list_load 36 x ho hg _ Try.underlying36 rfl ⟨g, 0, none⟩ (cc c).toList (by kernel_rfl) hx (fun j u hu => by
    rw [show Addr.add ⟨g, 0, none⟩ j = ⟨g, j, none⟩ from by rw [Addr.add]; split <;> simp_all, cell_of_row w g j _ 36 (0, 0) hh]
    simpa using hu) (by simpa using h)
end
theorem eql31 (w : World) : (binOp .eql 31 (.agg #[.int .u8 0, .int .u16 0, .int .u64 0, .bool false, .int .i64 0, .int .i64 0, .bool false, .bool false]) (.agg #[.int .u8 0, .int .u16 0, .int .u64 0, .bool false, .int .i64 0, .int .i64 0, .bool false, .bool false])).run Try.prog w = .ok (.bool true) w := by kernel_rfl
theorem eqv (a b c : Bool) (w : World) : (binOp .eql 23 (.agg #[.bool a, .bool b, .bool c]) (.agg #[.bool a, .bool b, .bool c])).run Try.prog w = .ok (.bool true) w := by
  rw [eql23]; simp
theorem eqIn23 (a b c : Bool) (w : World) : (Op.equalIn 10000 23 (.agg #[.bool a, .bool b, .bool c]) (.agg #[.bool a, .bool b, .bool c])).run Try.prog w = .ok true w := by
  cases a <;> cases b <;> cases c <;> kernel_rfl
theorem eqIn31 (w : World) : (Op.equalIn 10000 31 (.agg #[.int .u8 0, .int .u16 0, .int .u64 0, .bool false, .int .i64 0, .int .i64 0, .bool false, .bool false]) (.agg #[.int .u8 0, .int .u16 0, .int .u64 0, .bool false, .int .i64 0, .int .i64 0, .bool false, .bool false])).run Try.prog w = .ok true w := by kernel_rfl
theorem eqInV (a b c a' b' c' : Bool) (w : World) : (Op.equalIn 10000 23 (.agg #[.bool a, .bool b, .bool c]) (.agg #[.bool a', .bool b', .bool c'])).run Try.prog w = .ok ((⟨a, b, c⟩ : V) == ⟨a', b', c'⟩) w := by
  cases a <;> cases b <;> cases c <;> cases a' <;> cases b' <;> cases c' <;> kernel_rfl
/-- Three blocks that are read: values, and two senses that say nothing. -/
def Kp (W : World) (b t u : Nat) (v : V) : Prop := W.heap[b]? = some (.cells #[.bool v.a, .bool v.b, .bool v.c] 23 (0, 0)) ∧ W.heap[t]? = some (.cells #[.int .u8 0, .int .u16 0, .int .u64 0, .bool false, .int .i64 0, .int .i64 0, .bool false, .bool false] 31 (0, 0)) ∧ W.heap[u]? = some (.cells #[.int .u8 0, .int .u16 0, .int .u64 0, .bool false, .int .i64 0, .int .i64 0, .bool false, .bool false] 31 (0, 0))
theorem Kp.mod {W W' : World} {b t u : Nat} {v : V} (h : Kp W b t u v) (hm : Mod (fun _ => False) W W') : Kp W' b t u v := ⟨hm.heap h.1 (fun h => h), hm.heap h.2.1 (fun h => h), hm.heap h.2.2 (fun h => h)⟩
theorem Kp.drew {W : World} {b t u : Nat} {v : V} (h : Kp W b t u v) : Kp W.drew b t u v := h
theorem Kp.all {W : World} {b t u : Nat} {v : V} (h : Kp W b t u v) : (W.cell? ⟨b, 0, none⟩ = some (.bool v.a) ∧ W.cell? ⟨b, 1, none⟩ = some (.bool v.b) ∧ W.cell? ⟨b, 2, none⟩ = some (.bool v.c)) ∧
    (W.cell? ⟨t, 0, none⟩ = some (.int .u8 0) ∧ W.cell? ⟨t, 1, none⟩ = some (.int .u16 0) ∧ W.cell? ⟨t, 2, none⟩ = some (.int .u64 0) ∧ W.cell? ⟨t, 3, none⟩ = some (.bool false) ∧ W.cell? ⟨t, 4, none⟩ = some (.int .i64 0) ∧ W.cell? ⟨t, 5, none⟩ = some (.int .i64 0) ∧ W.cell? ⟨t, 6, none⟩ = some (.bool false) ∧ W.cell? ⟨t, 7, none⟩ = some (.bool false)) ∧
    (W.cell? ⟨u, 0, none⟩ = some (.int .u8 0) ∧ W.cell? ⟨u, 1, none⟩ = some (.int .u16 0) ∧ W.cell? ⟨u, 2, none⟩ = some (.int .u64 0) ∧ W.cell? ⟨u, 3, none⟩ = some (.bool false) ∧ W.cell? ⟨u, 4, none⟩ = some (.int .i64 0) ∧ W.cell? ⟨u, 5, none⟩ = some (.int .i64 0) ∧ W.cell? ⟨u, 6, none⟩ = some (.bool false) ∧ W.cell? ⟨u, 7, none⟩ = some (.bool false)) := ⟨vals h.1, eights h.2.1, eights h.2.2⟩
theorem guard31 : Try.prog.eqGuardType Try.prog.depth 31 = false := by kernel_rfl
end Go.Proofs.Ytieieinaijopnaa
namespace Go.Proofs.Ytieieinaijopnaa.modeKeeps
open Go.ChangeShapes Go.WideShapes Go.ChangeAt Go.RowKit Go.Deep
set_option linter.unusedVariables false
set_option maxRecDepth 100000 in
set_option maxHeartbeats 4000000 in
theorem walk0 (v : V) (c : C) (A : Option Addr) (len cap : Nat) (L : List Int) (w : World) (hlc : len ≤ cap) (hcm : cap ≤ maxLen) (hr : Rd w 1 (ic .u8) A len L) (hb : ∀ x ∈ L, 0 ≤ x ∧ x ≤ 255) :
    Calls Try.prog 4 #[vv v, cv c, .slice A len cap] w fun e w' => e = .returned (.bool true) ∧ Below w.heap.size w w' := by
  obtain ⟨va, vb, vc⟩ := v
  obtain ⟨kind, long, lba, blocks, alloc, fua, prot, unmap, evpd, page, control, save, service, type, bytes⟩ := c
  have m0 : Mod (fun _ => False) w ((w.alloc (.cells #[.bool va, .bool vb, .bool vc] 23)).alloc (.cells (cc ⟨kind, long, lba, blocks, alloc, fua, prot, unmap, evpd, page, control, save, service, type, bytes⟩) 36)) := ((Mod.refl _ w).alloc _).alloc _
  have b0 : ((w.alloc (.cells #[.bool va, .bool vb, .bool vc] 23)).alloc (.cells (cc ⟨kind, long, lba, blocks, alloc, fua, prot, unmap, evpd, page, control, save, service, type, bytes⟩) 36)).heap[w.heap.size]? = some (.cells #[.bool va, .bool vb, .bool vc] 23 (0, 0)) := heap_alloc2_old _ _ _
  have c0 : ((w.alloc (.cells #[.bool va, .bool vb, .bool vc] 23)).alloc (.cells (cc ⟨kind, long, lba, blocks, alloc, fua, prot, unmap, evpd, page, control, save, service, type, bytes⟩) 36)).heap[w.heap.size + 1]? = some (.cells (cc ⟨kind, long, lba, blocks, alloc, fua, prot, unmap, evpd, page, control, save, service, type, bytes⟩) 36 (0, 0)) := heap_alloc2_new _ _ _
  generalize hW0 : (w.alloc (.cells #[.bool va, .bool vb, .bool vc] 23)).alloc (.cells (cc ⟨kind, long, lba, blocks, alloc, fua, prot, unmap, evpd, page, control, save, service, type, bytes⟩) 36) = W0 at *
  have haw := awake_any W0
  obtain ⟨S, hS⟩ : ∃ S, S = strOf L := ⟨_, rfl⟩
  have hstr : ∀ W, Below w.heap.size w W → (convert 25 9 (.slice A len cap)).run Try.prog W = .ok (.string S) W := fun W h => by rw [hS]; exact conv_str (hr.below h)
  replace hS := hide hS; replace hstr := hide hstr; replace haw := hide haw; replace m0 := hide m0; replace b0 := hide b0; replace c0 := hide c0; replace hW0 := hide hW0; replace hr := hide hr; replace hb := hide hb
  go_enter Try.func4, Try.ntmps4
  go_wp2_with (first
    | (go_at_call 8; rw [hW0.out]; (with_reducible refine haw.out.mono ?_); rintro e w1 ⟨rfl, m1⟩
       have b1 := m1.heap b0.out (by simp)
       have c1 := m1.heap c0.out (by simp)
       obtain ⟨x0, x1, x2⟩ := vals (v := ⟨va, vb, vc⟩) b1
       replace m1 := hide m1; replace b1 := hide b1; replace c1 := hide c1)
    | (go_at_call 9; (with_reducible refine (new_any ⟨va, vb, vc⟩ _).mono ?_); rintro e w2 ⟨p, rfl, hp2, m2, o2⟩
       have b2 := m2.heap b1.out (by simp)
       have c2 := m2.heap c1.out (by simp)
       have M2 := (m0.out.trans m1.out (by simp)).trans m2 (by simp)
       have o2' : w.heap.size + 1 < p := Nat.lt_of_lt_of_le (Array.getElem?_eq_some_iff.1 c1.out).1 o2
       have s2 := hstr.out w2 (M2.below (Nat.le_refl _) (by simp))
       have hsel := select_any p ⟨kind, long, lba, blocks, alloc, fua, prot, unmap, evpd, page, control, save, service, type, bytes⟩ A len cap L ⟨va, vb, vc⟩ ⟨va, vb, vc⟩ w2 hp2 hlc hcm (hr.out.mod M2 (by simp)) hb.out
       replace m2 := hide m2; replace b2 := hide b2; replace c2 := hide c2; replace M2 := hide M2; replace hp2 := hide hp2; replace hsel := hide hsel)
    | ((with_reducible refine load_cmd ⟨kind, long, lba, blocks, alloc, fua, prot, unmap, evpd, page, control, save, service, type, bytes⟩ (.tmp 4) (w.heap.size + 1) ?_ ?_ ?_ c2.out ?_); exact rfl; exact rfl; exact rfl)
    | (go_at_call 11; (with_reducible refine hsel.out.mono ?_); rintro e w3 ⟨ch, ⟨sk, sc, sf, sb, sh, sm⟩, ok, ⟨na, nb, nc⟩, s', hR, rfl, hp3, m3⟩
       have b3 := m3.heap b2.out (by omega)
       have c3 := m3.heap c2.out (by omega)
       have M3 := (M2.out.mono (G := fun k => w.heap.size ≤ k) (by simp)).trans m3 (fun i hi e => by omega)
       have s3 : ∀ o, (convert 25 9 (.slice A len cap)).run Try.prog (w3.alloc o) = .ok (.string S) (w3.alloc o) := fun o => hstr.out _ ((M3.alloc o).below (Nat.le_refl _) (fun _ h => h))
       have c3a : ∀ o, (w3.alloc o).heap[w.heap.size + 1]? = some (.cells (cc ⟨kind, long, lba, blocks, alloc, fua, prot, unmap, evpd, page, control, save, service, type, bytes⟩) 36 (0, 0)) := fun o => ((Mod.refl (fun _ => False) w3).alloc o).heap c3 (by simp)
       replace c3a := hide c3a
       replace hR := hide hR; replace m3 := hide m3; replace b3 := hide b3; replace c3 := hide c3; replace M3 := hide M3; replace hp3 := hide hp3)
    | ((with_reducible refine load_cmd ⟨kind, long, lba, blocks, alloc, fua, prot, unmap, evpd, page, control, save, service, type, bytes⟩ (.tmp 4) (w.heap.size + 1) ?_ ?_ ?_ (c3a.out _) ?_); exact rfl; exact rfl; exact rfl)
    | (go_at_call 11; (with_reducible refine (select_nil ⟨kind, long, lba, blocks, alloc, fua, prot, unmap, evpd, page, control, save, service, type, bytes⟩ A len cap _).mono ?_); rintro e w5 ⟨rfl, m5⟩
       have b5 := m5.heap (((Mod.refl (fun _ => False) w3).alloc _).heap b3.out (by simp)) (by simp)
       have hp5 := (hp3.out.mod ((Mod.refl (fun _ => False) w3).alloc _) (by simp)).mod m5 (by simp)
       have M5 := (M3.out.alloc _).trans (m5.mono (G := fun k => w.heap.size ≤ k) (by simp)) (fun _ _ h => h)
       have t5 := m5.heap (heap_alloc_new w3 _) (by simp)
       replace m5 := hide m5; replace b5 := hide b5; replace hp5 := hide hp5; replace M5 := hide M5; replace t5 := hide t5))
  · have hok : ok = false := by cases ok <;> simp_all
    rw [hok] at hR
    obtain ⟨hch, hkey, hn, hs⟩ := hR.out.refused
    subst hch
    obtain ⟨rfl, rfl, rfl⟩ : va = na ∧ vb = nb ∧ vc = nc := by injection hn with h1 h2 h3; exact ⟨h1.symm, h2.symm, h3.symm⟩
    subst hs
    replace hkey : sk = 5 := hkey
    subst hkey
    have b4 := ((Mod.refl (fun _ => False) w3).alloc (.cells #[.int .u8 5, .int .u16 sc, .int .u64 0, .bool false, .int .i64 sf, .int .i64 sb, .bool sh, .bool sm] 31)).heap b3.out (by simp)
    have hp4 := hp3.out.mod ((Mod.refl (fun _ => False) w3).alloc (.cells #[.int .u8 5, .int .u16 sc, .int .u64 0, .bool false, .int .i64 sf, .int .i64 sb, .bool sh, .bool sm] 31)) (by simp)
    have M4 := M3.out.alloc (.cells #[.int .u8 5, .int .u16 sc, .int .u64 0, .bool false, .int .i64 sf, .int .i64 sb, .bool sh, .bool sm] 31)
    obtain ⟨y0, y1, y2⟩ := vals (v := ⟨va, vb, vc⟩) b3.out
    have hz3 : w.heap.size < w3.heap.size := (Array.getElem?_eq_some_iff.1 b3.out).1
    have hq4 : (w3.alloc (.cells #[.int .u8 5, .int .u16 sc, .int .u64 0, .bool false, .int .i64 sf, .int .i64 sb, .bool sh, .bool sm] 31)).heap[p]? = some (.cells #[.bool va, .bool vb, .bool vc, .bool va, .bool vb, .bool vc] 53 (0, 0)) := hp4
    replace hq4 := hide hq4
    have e1 := eqv va vb vc
    have e2 := eqIn23 va vb vc
    have e3 := guard23
    replace b4 := hide b4; replace hp4 := hide hp4; replace M4 := hide M4
    go_region_with (first
      | (go_at_call 12; (with_reducible refine (now_some p ⟨va, vb, vc⟩ ⟨va, vb, vc⟩ _ ?_).mono ?_); (exact hp4.out); rintro e w5 ⟨rfl, m5⟩
         have b5 := Mod.heap (F := fun _ => False) m5 b4.out (fun h => h)
         have hp5 : PG w5 p ⟨va, vb, vc⟩ ⟨va, vb, vc⟩ := Mod.heap (F := fun _ => False) m5 hq4.out (fun h => h)
         have M5 := M4.out.drew.trans (Mod.mono (F := fun _ => False) (G := fun k => w.heap.size ≤ k) m5 (fun _ _ h => h.elim)) (fun _ _ h => h)
         obtain ⟨z0, z1, z2⟩ := vals (v := ⟨va, vb, vc⟩) b5
         replace m5 := hide m5; replace b5 := hide b5; replace hp5 := hide hp5; replace M5 := hide M5)
      | (go_at_call 13; (with_reducible refine (saved_some p ⟨va, vb, vc⟩ ⟨va, vb, vc⟩ _ ?_).mono ?_); (exact hp5.out); rintro e w6 ⟨rfl, m6⟩
         have b6 := Mod.heap (F := fun _ => False) m6 b5.out (fun h => h)
         have M6 := M5.out.trans (Mod.mono (F := fun _ => False) (G := fun k => w.heap.size ≤ k) m6 (fun _ _ h => h.elim)) (fun _ _ h => h)
         obtain ⟨u0, u1, u2⟩ := vals (v := ⟨va, vb, vc⟩) b6
         replace m6 := hide m6; replace b6 := hide b6; replace M6 := hide M6))
    all_goals
      go_wp2_with fail
      go_ret
      exact ⟨rfl, M6.out.below (Nat.le_refl _) (fun _ h => h)⟩
  · have hok : ok = true := by cases ok <;> simp_all
    rw [hok] at hR
    obtain ⟨hsn, hch⟩ := hR.out.taken
    obtain ⟨rfl, rfl, rfl, rfl, rfl, rfl⟩ : sk = 0 ∧ sc = 0 ∧ sf = 0 ∧ sb = 0 ∧ sh = false ∧ sm = false := by injection hsn with h1 h2 h3 h4 h5 h6; exact ⟨h1, h2, h3, h4, h5, h6⟩
    have i1 : ∀ w, (binOp .neq 23 (.agg #[.bool na, .bool nb, .bool nc]) (.agg #[.bool va, .bool vb, .bool vc])).run Try.prog w = .ok (.bool ch) w := fun w => by rw [neq23, hch]
    have i2 : ∀ w, (Op.equalIn 10000 23 (.agg #[.bool na, .bool nb, .bool nc]) (.agg #[.bool va, .bool vb, .bool vc])).run Try.prog w = .ok (!ch) w := fun w => by rw [eqInV, hch]; simp [bne]
    have i3 := eqv false false false
    have i4 := eqIn23 false false false
    have i5 := eql31
    have i6 := eqIn31
    have i7 := guard23
    have i8 := guard31
    have mz := (Mod.refl (fun _ => False) w5).alloc (.cells #[.int .u8 0, .int .u16 0, .int .u64 0, .bool false, .int .i64 0, .int .i64 0, .bool false, .bool false] 31)
    have b6 := mz.heap b5.out (by simp)
    have t6 := mz.heap t5.out (by simp)
    have u6 : (w5.alloc (.cells #[.int .u8 0, .int .u16 0, .int .u64 0, .bool false, .int .i64 0, .int .i64 0, .bool false, .bool false] 31)).heap[w5.heap.size]? = some (.cells #[.int .u8 0, .int .u16 0, .int .u64 0, .bool false, .int .i64 0, .int .i64 0, .bool false, .bool false] 31 (0, 0)) := heap_alloc_new _ _
    have hq6 : (w5.alloc (.cells #[.int .u8 0, .int .u16 0, .int .u64 0, .bool false, .int .i64 0, .int .i64 0, .bool false, .bool false] 31)).heap[p]? = some (.cells #[.bool na, .bool nb, .bool nc, .bool s'.a, .bool s'.b, .bool s'.c] 53 (0, 0)) := mz.heap (show w5.heap[p]? = _ from hp5.out) (by simp)
    have M6 := M5.out.alloc (.cells #[.int .u8 0, .int .u16 0, .int .u64 0, .bool false, .int .i64 0, .int .i64 0, .bool false, .bool false] 31)
    have kp6 : Kp (w5.alloc (.cells #[.int .u8 0, .int .u16 0, .int .u64 0, .bool false, .int .i64 0, .int .i64 0, .bool false, .bool false] 31)) w.heap.size w3.heap.size w5.heap.size ⟨va, vb, vc⟩ := ⟨b6, t6, u6⟩
    obtain ⟨tb, htb⟩ : ∃ tb, tb = w3.heap.size := ⟨_, rfl⟩
    replace hch := hide hch; replace hsn := hide hsn; replace hok := hide hok; replace hq6 := hide hq6; replace M6 := hide M6; replace kp6 := hide kp6; replace htb := hide htb
    clear mz b6 t6 u6
    go_region_held3 (fun w' => (w'.cell? ⟨w.heap.size, 0, none⟩ = some (.bool va) ∧ w'.cell? ⟨w.heap.size, 1, none⟩ = some (.bool vb) ∧ w'.cell? ⟨w.heap.size, 2, none⟩ = some (.bool vc)) ∧
        (w'.cell? ⟨w3.heap.size, 0, none⟩ = some (.int .u8 0) ∧ w'.cell? ⟨w3.heap.size, 1, none⟩ = some (.int .u16 0) ∧ w'.cell? ⟨w3.heap.size, 2, none⟩ = some (.int .u64 0) ∧ w'.cell? ⟨w3.heap.size, 3, none⟩ = some (.bool false) ∧ w'.cell? ⟨w3.heap.size, 4, none⟩ = some (.int .i64 0) ∧ w'.cell? ⟨w3.heap.size, 5, none⟩ = some (.int .i64 0) ∧ w'.cell? ⟨w3.heap.size, 6, none⟩ = some (.bool false) ∧ w'.cell? ⟨w3.heap.size, 7, none⟩ = some (.bool false)) ∧
        (w'.cell? ⟨w5.heap.size, 0, none⟩ = some (.int .u8 0) ∧ w'.cell? ⟨w5.heap.size, 1, none⟩ = some (.int .u16 0) ∧ w'.cell? ⟨w5.heap.size, 2, none⟩ = some (.int .u64 0) ∧ w'.cell? ⟨w5.heap.size, 3, none⟩ = some (.bool false) ∧ w'.cell? ⟨w5.heap.size, 4, none⟩ = some (.int .i64 0) ∧ w'.cell? ⟨w5.heap.size, 5, none⟩ = some (.int .i64 0) ∧ w'.cell? ⟨w5.heap.size, 6, none⟩ = some (.bool false) ∧ w'.cell? ⟨w5.heap.size, 7, none⟩ = some (.bool false)))
      (first | exact kp6.out.all | exact kp6.out.drew.all | exact kp7.out.all | exact kp8.out.all | exact kp9.out.all)
      (first
      | (go_at_call 12; (with_reducible refine (now_some p ⟨na, nb, nc⟩ s' _ ?_).mono ?_); (exact hq6.out); rintro e w7 ⟨rfl, m7⟩
         have kp7 := Kp.mod kp6.out.drew m7
         have M7 := M6.out.drew.trans (Mod.mono (F := fun _ => False) (G := fun k => w.heap.size ≤ k) m7 (fun _ _ h => h.elim)) (fun _ _ h => h)
         replace m7 := hide m7; replace kp7 := hide kp7; replace M7 := hide M7)
      | (go_at_call 12; (with_reducible refine (now_nil _).mono ?_); rintro e w8 ⟨rfl, m8⟩
         have kp8 := Kp.mod kp7.out m8
         have M8 := M7.out.trans (Mod.mono (F := fun _ => False) (G := fun k => w.heap.size ≤ k) m8 (fun _ _ h => h.elim)) (fun _ _ h => h)
         replace m8 := hide m8; replace kp8 := hide kp8; replace M8 := hide M8)
      | (go_at_call 13; (with_reducible refine (saved_nil _).mono ?_); rintro e w9 ⟨rfl, m9⟩
         have kp9 := Kp.mod kp8.out m9
         have M9 := M8.out.trans (Mod.mono (F := fun _ => False) (G := fun k => w.heap.size ≤ k) m9 (fun _ _ h => h.elim)) (fun _ _ h => h)
         replace m9 := hide m9; replace kp9 := hide kp9; replace M9 := hide M9))
    all_goals
      go_wp2_with fail
      go_ret
      exact ⟨rfl, M9.out.below (Nat.le_refl _) (fun _ h => h)⟩
end Go.Proofs.Ytieieinaijopnaa.modeKeeps
