/-
  The table's key, Holds, Conflict: what they answer. Conditions: the table stands in memory. The table's All, Holds, Conflict: what they answer. Conditions: the table stands in memory; its kind is one of those that the unit lets in. Do where the table is in the way: status 24. Conditions: as stated. READ and WRITE from the nexus's side, whatever the table says. Conditions: the table's kind is one of those that come to stand. What the unit tells of its table. Conditions: the table stands in memory; its kind is one of those that come to stand. What TopReserves reckons of the table is what Conflict answers, plain. Conditions: the kind is one of those that come to stand; the nexus is none below 0. Whether the table outlasts the power. Condition: it stands in memory.
-/
import Derived.Test.YtjkpelbhhapebaaGreatDoorCi
namespace Go.Proofs.YtjkpelbhhapebaaGreatDoor
open Go.RowKit
set_option maxRecDepth 100000
abbrev z50 : Array Value := #[(.int .i64 0 : Value), .int .u64 0]
theorem new50 : New 50 z50 := fun w => by kernel_rfl
theorem size50 : (Tryz.prog.info? 50).map (·.size) = some 2 := by kernel_rfl
theorem rg_one (r : Rg) : (encR r).toArray.all (·.oneCell') = true := all_oneCell_toArray (cs := encR r) (encR_one r)
/-- The key of nexus n, and whether there is one. -/
def tkey (l : List Rg) (n : Int) : Int × Bool := match l.find? (fun r => r.1 == n) with
  | some r => (r.2, true)
  | none => (0, false)
theorem tkey_at (l : List Rg) (n : Int) (k : Nat) (hk : k < l.length) (h : ∀ j, j < k → (gi l j).1 ≠ n) (he : (gi l k).1 = n) : tkey l n = ((gi l k).2, true) := by
  have : l.find? (fun r => r.1 == n) = some (gi l k) := by
    rw [List.find?_eq_some_iff_getElem]
    refine ⟨by simpa using he, k, hk, (gi_eq l k hk).symm, fun j hj => ?_⟩
    have := h j hj
    rw [gi_eq l j (by omega)] at this
    simpa using this
  unfold tkey
  rw [this]
theorem tkey_no (l : List Rg) (n : Int) (h : ∀ j, j < l.length → (gi l j).1 ≠ n) : tkey l n = (0, false) := by
  have : l.find? (fun r => r.1 == n) = none := by
    rw [List.find?_eq_none]
    intro r hr
    obtain ⟨j, hj, rfl⟩ := List.getElem_of_mem hr
    have := h j hj
    rw [gi_eq l j hj] at this
    simpa using this
  unfold tkey
  rw [this]
set_option maxHeartbeats 2000000 in
theorem key_any (t : Nat) (n : Int) (v : Value) (T : Tb) (w : World) (h : TB w t v T) (hr : Row w 50 2 encR v T.regs) (hl : T.regs.length ≤ 1000000) :
    Calls Tryz.prog 51 #[.pointer (some ⟨t, 0, none⟩), .int .i64 n] w fun e w' => e = .returned (.tuple #[.int .u64 (tkey T.regs n).1, .bool (tkey T.regs n).2]) ∧ Mod (fun _ => False) w w' := by
  obtain ⟨k0, -, -, -, -⟩ := h.cells
  obtain ⟨A, m, c, rfl⟩ := hr.form
  have hrd := hr.rd encR_len rfl
  have hlen : T.regs.length = m := hrd.1
  have hP : Hid (Mod (fun _ => False) w w) := hide (Mod.refl _ _)
  obtain ⟨l, hl0⟩ : ∃ l, l = T.regs := ⟨_, rfl⟩
  rw [← hl0] at hrd hlen hl ⊢
  clear hl0
  have hlm : m ≤ 1000000 := by omega
  replace hr := hide hr; replace hrd := hide hrd; replace h := hide h; replace hlen := hide hlen
  go_enter Tryz.func51, Tryz.ntmps51
  go_wp2_with fail
  go_loopw [13] (fun x wr => ∃ k : Nat, k ≤ m ∧ x = .int .i64 k ∧ (∀ j, j < k → (gi l j).1 ≠ n) ∧ Hid (Mod (fun _ => False) w wr)) (fun x _ => m - (intOf x).toNat)
  case atStart => exact ⟨0, Nat.zero_le _, rfl, fun j hj => by omega, hP⟩
  case round =>
    obtain ⟨k, hk, rfl, hno, hM⟩ := hrel
    replace hno := hide hno
    by_cases hkm : k < m
    · obtain ⟨ad, rfl, hc⟩ := (hrd.out.mod hM.out (fun _ _ e => e)).2 k hkm
      obtain ⟨r, hrk⟩ : ∃ r, r = gi l k := ⟨_, rfl⟩
      rw [← hrk] at hc
      have hcc : ∀ j u, (encR r)[j]? = some u → wr.cell? ((ad.add (k * 2)).add j) = some u := fun j u hu => by rw [addr_add]; exact hc j u hu
      have q1 : (k : Int) < m := by omega
      clear hc
      replace hcc := hide hcc; replace hrk := hide hrk
      cases hb : (r.1 == n)
      all_goals go_wp2_with (first
        | ((with_reducible refine list_load 50 (.tmp 15) ?_ ?_ _ Tryz.underlying50 ?_ (ad.add (k * 2)) (encR r) ?_ ?_ hcc.out ?_)
           exact rfl
           exact rfl
           exact rfl
           exact size50
           exact rfl
           skip)
        | ((with_reducible refine list_al 50 _ new50 ?_ ?_ ?_)
           exact rfl
           exact rfl
           intro w2 g2 hg2 h2 m2 s2
           replace hg2 := hide hg2; replace h2 := hide h2; replace m2 := hide m2; replace s2 := hide s2)
        | ((with_reducible refine list_put 50 (.tmp 7) (.tmp 16) ?_ ?_ g2 (encR r).toArray ?_ ?_ z50 h2.out ?_ ?_ ?_ ?_)
           exact rfl
           exact rfl
           exact rfl
           exact rfl
           exact rfl
           exact size50
           exact rg_one r
           intro w3 h3 m3
           have c0 : w3.cell? ⟨g2, 0, none⟩ = some (.int .i64 r.1) := by rw [cell_of_row w3 _ _ _ 50 (0, 0) h3]; rfl
           have c1 : w3.cell? ⟨g2, 1, none⟩ = some (.int .u64 r.2) := by rw [cell_of_row w3 _ _ _ 50 (0, 0) h3]; rfl
           have M3 : Mod (fun _ => False) w w3 := (hM.out.trans m2.out (fun _ _ e => e)).trans m3 (fun k hk e => by have := hg2.out; have := hM.out.size; omega)
           replace M3 := hide M3; replace h3 := hide h3; replace m3 := hide m3))
      · refine ⟨⟨k + 1, by omega, rfl, fun j hj => ?_, M3⟩, by simp [intOf]; omega⟩
        by_cases hjk : j = k
        · rw [hjk, ← hrk.out]
          simpa using hb
        · exact hno.out j (by omega)
      · go_ret2
        rw [tkey_at l n k (by rw [hlen.out]; exact hkm) hno.out (by rw [← hrk.out]; simpa using hb), ← hrk.out]
        exact ⟨rfl, M3.out⟩
    · obtain rfl : k = m := by omega
      have q1 : decide ((k : Int) < k) = false := by simp
      go_wp2_with fail
      go_ret2
      rw [tkey_no l n (fun j hj => hno.out j (by rw [hlen.out] at hj; exact hj))]
      exact ⟨rfl, hM.out⟩
end Go.Proofs.YtjkpelbhhapebaaGreatDoor
namespace Go.Proofs.YtjkpelbhhapebaaGreatDoor
open Go.RowKit
set_option maxRecDepth 100000
/-- The kinds that come to stand. -/
def KindOk (k : Int) : Prop := k = 0 ∨ k = 1 ∨ k = 3 ∨ k = 5 ∨ k = 6 ∨ k = 7 ∨ k = 8
theorem all_any (k : Int) (hk : KindOk k) (w : World) : Calls Tryz.prog 64 #[.int .u8 k] w fun e w' => e = .returned (.bool (k == 7 || k == 8)) ∧ w = w' := by
  rcases hk with rfl | rfl | rfl | rfl | rfl | rfl | rfl
  all_goals
    go_enter Tryz.func64, Tryz.ntmps64
    go_wp2
    go_ret
    exact ⟨rfl, rfl⟩
def holdsB (T : Tb) (n : Int) : Bool := if T.kind = 0 then false else if T.kind = 7 ∨ T.kind = 8 then (tkey T.regs n).2 else T.holder == n
set_option maxHeartbeats 2000000 in
theorem holds_any (t : Nat) (n : Int) (v : Value) (T : Tb) (w : World) (h : TB w t v T) (hr : Row w 50 2 encR v T.regs) (hl : T.regs.length ≤ 1000000) (hk : KindOk T.kind) :
    Calls Tryz.prog 50 #[.pointer (some ⟨t, 0, none⟩), .int .i64 n] w fun e w' => e = .returned (.bool (holdsB T n)) ∧ Mod (fun _ => False) w w' := by
  have hkey := key_any t n v T w h hr hl
  obtain ⟨-, -, k2, k3, -⟩ := h.cells
  have hall := fun w => all_any T.kind hk w
  have hM : Hid (Mod (fun _ => False) w w) := hide (Mod.refl _ _)
  unfold holdsB
  generalize T.kind = k at *
  generalize T.holder = o at *
  obtain ⟨kb, hkb⟩ : ∃ kb, kb = (tkey T.regs n).2 := ⟨_, rfl⟩
  obtain ⟨kv, hkv⟩ : ∃ kb, kb = (tkey T.regs n).1 := ⟨_, rfl⟩
  rw [← hkb, ← hkv] at hkey
  rw [← hkb]
  clear hkb hkv h hr hl
  replace hkey := hide hkey
  rcases hk with rfl | rfl | rfl | rfl | rfl | rfl | rfl
  all_goals
    replace hall := hide hall
    go_enter Tryz.func50, Tryz.ntmps50
    go_wp2_with (first
      | (go_at_call 64; (with_reducible refine (hall.out _).mono ?_); rintro e w2 ⟨rfl, rfl⟩)
      | (go_at_call 51; (with_reducible refine hkey.out.mono ?_); rintro e w2 ⟨rfl, m2⟩; replace m2 := hide m2))
    go_ret
    first
    | exact ⟨rfl, hM.out⟩
    | exact ⟨rfl, m2.out⟩
def confB (T : Tb) (n cls : Int) : Bool :=
  if T.kind = 0 ∨ cls = 0 then false else if holdsB T n then false else if T.kind = 1 then cls != 1 else if T.kind = 3 then true else if T.kind = 5 ∨ T.kind = 7 then cls != 1 && !(tkey T.regs n).2 else !(tkey T.regs n).2
set_option maxHeartbeats 8000000 in
theorem conf_any (t : Nat) (n cls : Int) (hc : cls = 0 ∨ cls = 1 ∨ cls = 2) (v : Value) (T : Tb) (w : World) (h : TB w t v T) (hr : Row w 50 2 encR v T.regs) (hl : T.regs.length ≤ 1000000) (hk : KindOk T.kind) :
    Calls Tryz.prog 25 #[.pointer (some ⟨t, 0, none⟩), .int .i64 n, .int .u8 cls] w fun e w' => e = .returned (.bool (confB T n cls)) ∧ Mod (fun _ => False) w w' := by
  have hhold := holds_any t n v T w h hr hl hk
  have hkey : ∀ W, Mod (fun _ => False) w W → Calls Tryz.prog 51 #[.pointer (some ⟨t, 0, none⟩), .int .i64 n] W fun e w' => e = .returned (.tuple #[.int .u64 (tkey T.regs n).1, .bool (tkey T.regs n).2]) ∧ Mod (fun _ => False) W w' := fun W m =>
    key_any t n v T W (m.heap h (fun e => e)) (hr.mod m (fun _ _ e => e)) hl
  have hc2 : ∀ W, Mod (fun _ => False) w W → W.cell? ⟨t, 2, none⟩ = some (.int .u8 T.kind) := fun W m => (TB.cells (m.heap h (fun e => e))).2.2.1
  have k2 := hc2 w (Mod.refl _ _)
  have hM : Hid (Mod (fun _ => False) w w) := hide (Mod.refl _ _)
  unfold confB
  generalize T.kind = k at *
  obtain ⟨kb, hkb⟩ : ∃ kb, kb = (tkey T.regs n).2 := ⟨_, rfl⟩
  obtain ⟨kv, hkv⟩ : ∃ kb, kb = (tkey T.regs n).1 := ⟨_, rfl⟩
  obtain ⟨hb, hhb⟩ : ∃ hb, hb = holdsB T n := ⟨_, rfl⟩
  rw [← hkb, ← hkv] at hkey
  rw [← hhb] at hhold
  rw [← hkb, ← hhb]
  clear hkb hkv hhb h hr hl
  replace hkey := hide hkey; replace hc2 := hide hc2; replace hhold := hide hhold
  rcases hc with rfl | rfl | rfl <;> rcases hk with rfl | rfl | rfl | rfl | rfl | rfl | rfl <;> cases hb <;> cases kb
  all_goals
    go_enter Tryz.func25, Tryz.ntmps25
    go_wp2_with (first
      | (go_at_call 50; (with_reducible refine hhold.out.mono ?_); rintro e w2 ⟨rfl, m2⟩; have k22 := hc2.out w2 m2; replace m2 := hide m2)
      | (go_at_call 51; (with_reducible refine (hkey.out _ m2.out).mono ?_); rintro e w3 ⟨rfl, m3⟩; have k23 := hc2.out w3 (m2.out.trans m3 (fun _ _ e => e)); replace m3 := hide m3))
    go_ret
    first
    | exact ⟨rfl, hM.out⟩
    | exact ⟨rfl, m2.out.trans m3.out (fun _ _ e => e)⟩
    | exact ⟨rfl, m2.out⟩
end Go.Proofs.YtjkpelbhhapebaaGreatDoor
namespace Go.Proofs.YtjkpelbhhapebaaGreatDoor
open Go.RowKit
open W (Nxt)
set_option maxRecDepth 100000
set_option maxHeartbeats 16000000 in
theorem do_conf (B : Nat) (c : Nat → Nat) (a : UA) (S S1 : US) (n ab na cap : Nat) (L : List Int) (cm : Cm) (P : Value) (w : World) (h : UN B c w a S 0) (hst : StC B a S S1) (h8 : n < 8) (hr : Rd w 1 (ic .u8) (some ⟨ab, 0, none⟩) na L) (hna : 0 < na) (hab : c ab = 0)
    (hpa : ∀ W, Rd W 1 (ic .u8) (some ⟨ab, 0, none⟩) na L → Calls Tryz.prog 22 #[.slice (some ⟨ab, 0, none⟩) na cap] W fun e w' => e = .returned (.tuple #[.agg (cmA cm), .agg (seA 0 0 0 false), .bool true]) ∧ Mod (fun _ => False) W w')
    (k cls : Int) (hkd : cm.kind = k) (hcl : (k, cls) ∈ classOf) (t3 : (k == 3) = false) (t17 : (k == 17) = false) (t2 : (k == 2) = false) (hw : S1.L n = [])
    (hcon : ∀ c' W a', UN B c' W a' S1 0 → Calls Tryz.prog 25 #[.pointer (some ⟨a'.tb, 0, none⟩), .int .i64 n, .int .u8 cls] W fun e w' => e = .returned (.bool true) ∧ Mod (fun _ => False) W w') :
    Calls Tryz.prog 10 #[.pointer (some ⟨a.u, 0, none⟩), .int .i64 n, .slice (some ⟨ab, 0, none⟩) na cap, P] w (ResP B c w a.u fun st key code info has D a2 S2 => st = 24 ∧ key = 0 ∧ code = 0 ∧ info = 0 ∧ has = false ∧ D = [] ∧ a2.wb = a.wb ∧ S2 = S1) := by
  replace hw := hide hw; replace hcon := hide hcon; replace hcl := hide hcl
  obtain ⟨u, hu⟩ : ∃ u, u = a.u := ⟨_, rfl⟩
  have hd0 : decide ((n : Int) < 0) = false := by simp
  have hd8 : decide ((8 : Int) ≤ n) = false := by simp; omega
  have hablt := hr.lt0 hna
  have hult : u < w.heap.size := by rw [hu]; exact h.ult
  rw [← hu]
  replace h := hide h; replace hst := hide hst; replace hpa := hide hpa; replace hr := hide hr; replace hu := hide hu; replace hab := hide hab
  go_enter Tryz.func10, Tryz.ntmps10
  go_wp2_with (first
    | (refine list_al 35 _ new35' rfl rfl ?_
       intro w1 g8 hg8 h81 m1 hz1
       have U1 := (h.out.keep m1).1
       have X1 := (h.out.keep m1).2
       obtain ⟨k5, -, -, -, -, -, -, -, -⟩ := U1.cells
       obtain ⟨cn, hcn⟩ := U1.own.1
       have hct := count_any a S.prot S.done 0 cn w1 hcn
       have c8 : c g8 = 0 := h.out.sup _ (by omega)
       rw [← hu.out] at k5 hct
       replace hg8 := hide hg8; replace h81 := hide h81; replace m1 := hide m1; replace hz1 := hide hz1; replace U1 := hide U1; replace X1 := hide X1; replace hct := hide hct; replace hcn := hide hcn; replace c8 := hide c8)
    | (go_at_call 20; (with_reducible refine hct.out.mono ?_); rintro e w2 ⟨rv, cm2, rfl, ub2, m2, z2⟩
       rw [hu.out] at m2
       obtain ⟨U2, X2⟩ := U1.out.self ub2 m2 z2
       have h82 := X2.keep0 h81.out c8.out
       have hs2 := hst.out c w2 U2
       have X12 := X1.out.trans X2
       rw [← hu.out] at hs2
       replace U2 := hide U2; replace X12 := hide X12; replace h82 := hide h82; replace hs2 := hide hs2; clear X2 m2 ub2 z2)
    | (go_at_call 21; (with_reducible refine hs2.out.mono ?_); rintro e w3 ⟨rfl, hL⟩
       obtain ⟨c3, a3, S3, U3, hu3, X3, hwb3, hS3⟩ := hL
       have hS3 := hS3.symm
       subst hS3
       have h83 := X3.keep0 h82.out.1 h82.out.2
       have X13 := X12.out.trans X3
       have hr3 := hr.out.mod X13.mod (fun ad e k => by obtain rfl := Option.some.inj e; exact k hab.out)
       have hp3 := hpa.out w3 hr3
       replace U3 := hide U3; replace hu3 := hide hu3; replace X13 := hide X13; replace h83 := hide h83; replace hp3 := hide hp3; replace hwb3 := hide hwb3; clear X3 hr3)
    | (go_at_call 22; (with_reducible refine hp3.out.mono ?_); rintro e w4 ⟨rfl, m4⟩
       have U4 := (U3.out.keep m4).1
       have X14 := X13.out.trans (U3.out.keep m4).2
       have h84 := m4.heap h83.out.1 (fun h => h)
       have c84 := h83.out.2
       replace U4 := hide U4; replace X14 := hide X14; replace h84 := hide h84; replace c84 := hide c84; clear m4)
    | (refine list_al 104 _ new104 rfl rfl ?_
       intro w5 g9 hg9 h95 m5 hz5
       replace hg9 := hide hg9; replace h95 := hide h95; replace m5 := hide m5; replace hz5 := hide hz5)
    | (refine list_al 33 _ new33 rfl rfl ?_
       intro w6 g10 hg10 h106 m6 hz6
       have h96 := m6.heap h95.out (fun h => h)
       replace hg10 := hide hg10; replace h106 := hide h106; replace m6 := hide m6; replace hz6 := hide hz6; replace h96 := hide h96)
    | (refine list_put 104 (.tmp 9) (.tmp 46) rfl rfl g9 (cmA cm) rfl rfl (cmA (cm0 0)) h96.out rfl size104 (cm_one _) ?_
       intro w7 h97 m7
       have h107 := m7.heap h106.out (fun e => by have := hg10.out; have := hg9.out; have := hz5.out; omega)
       replace h97 := hide h97; replace m7 := hide m7; replace h107 := hide h107)
    | (refine list_put 33 (.tmp 10) (.tmp 47) rfl rfl g10 (seA 0 0 0 false) rfl rfl (seA 0 0 0 false) h107.out rfl size33 (se_one _ _ _ _) ?_
       intro w8 h108 m8
       have h98 := m8.heap h97.out (fun e => by have := hg10.out; have := hg9.out; have := hz5.out; omega)
       have M48 : Mod (fun _ => False) w4 w8 := ((m5.out.trans m6.out (fun _ _ h => h)).trans m7.out (fun i hi e => by have := hg9.out; omega)).trans m8 (fun i hi e => by have := hg10.out; have := hz5.out; have := hg9.out; omega)
       have U8 := (U4.out.keep M48).1
       have X18 := X14.out.trans (U4.out.keep M48).2
       have h88 := M48.heap h84.out (fun h => h)
       have c98 : c3 g9 = 0 := U4.out.sup _ (by have := hg9.out; omega)
       obtain ⟨-, -, -, -, k9, -, -, -, -⟩ := U8.cells
       rw [hu3.out] at k9
       have kk : w8.cell? ⟨g9, 0, none⟩ = some (.int .u8 cm.kind) := CM.c0 h98
       have hpk := U8.peek0 n h8 hw.out
       have kk := kk
       rw [hkd] at kk
       replace h108 := hide h108; replace h98 := hide h98; replace M48 := hide M48; replace U8 := hide U8; replace X18 := hide X18; replace h88 := hide h88; replace c98 := hide c98; replace hpk := hide hpk)
    | (go_at_call 23; (with_reducible refine hpk.out.mono ?_); rintro e w9 ⟨rfl, m9⟩
       have U9 := (U8.out.keep m9).1
       have X19 := X18.out.trans (U8.out.keep m9).2
       have h89 := m9.heap h88.out (fun h => h)
       have h99 : CM w9 g9 cm := m9.heap h98.out (fun h => h)
       replace U9 := hide U9; replace X19 := hide X19; replace h89 := hide h89; replace h99 := hide h99; clear m9))
  obtain ⟨-, -, -, q8, -, -, -, -, -⟩ := U9.out.cells
  rw [hu3.out] at q8
  have s0 : w9.cell? ⟨g9, 0, none⟩ = some (.int .u8 k) := by rw [h99.out.c0, hkd]
  have hS : ∀ W, Mod (fun _ => False) w9 W → W.cell? ⟨u, 8, none⟩ = some (.pointer (some ⟨a3.tb, 0, none⟩)) ∧ W.cell? ⟨g9, 0, none⟩ = some (.int .u8 k) := fun W m => ⟨m.cell q8 (fun h => h), m.cell s0 (fun h => h)⟩
  clear q8 s0
  have hcla := fun W => class_any k cls hcl.out W
  have hco9 := fun W (m : Mod (fun _ => False) w9 W) => hcon.out c3 W a3 (U9.out.keep m).1
  replace hS := hide hS; replace hcla := hide hcla; replace hco9 := hide hco9
  go_region_held3 (fun w' => w'.cell? ⟨u, 8, none⟩ = some (.pointer (some ⟨a3.tb, 0, none⟩)) ∧ w'.cell? ⟨g9, 0, none⟩ = some (.int .u8 k))
    (first | exact hS.out _ ((Mod.refl _ w9).drew) | exact hS.out _ M910.out)
    (first
    | (go_at_call 17; (with_reducible refine (hcla.out _).mono ?_); rintro e w' ⟨rfl, rfl⟩)
    | (go_at_call 25; (with_reducible refine (hco9.out _ ((Mod.refl _ w9).drew)).mono ?_); rintro e w10 ⟨rfl, m10⟩
       have M910 : Mod (fun _ => False) w9 w10 := ((Mod.refl _ w9).drew).trans m10 (fun _ _ h => h)
       replace M910 := hide M910; clear m10))
  have U10 := (U9.out.keep M910.out).1
  have X110 := X19.out.trans (U9.out.keep M910.out).2
  have h810 := M910.out.heap h89.out (fun h => h)
  replace U10 := hide U10; replace X110 := hide X110; replace h810 := hide h810
  go_wp2_with ((with_reducible refine list_put 35 (.tmp 8) (.tmp 98) ?_ ?_ g8 (rcA 24 0 0 0 false (.slice none 0 0)) ?_ ?_ zs35 h810.out ?_ ?_ ?_ ?_)
               exact rfl
               exact rfl
               exact rfl
               exact rfl
               exact rfl
               exact size35
               exact rc_one _ _ _ _ _ _ _ _
               intro w12 h12 m12; replace h12 := hide h12; replace m12 := hide m12)
  have U12 := U10.out.mod m12.out (fun k e => by rw [e]; exact c84.out)
  have X112 := X110.out.own m12.out (by rw [hg8.out]; exact Nat.le_refl _) h.out.big
  exact bodyPost_ret (v := rsA 24 0 0 0 false (.slice none 0 0)) (results_one rfl rfl (load_whole h12.out Tryz.underlying35 rfl size35)) rfl ⟨24, 0, 0, 0, false, none, 0, 0, [], c3, a3, _, rfl, Row.nil _ _ _ _, by simp [Value.ownBlock], U12, hu3.out, X112, rfl, rfl, rfl, rfl, rfl, rfl, hwb3.out, rfl⟩
end Go.Proofs.YtjkpelbhhapebaaGreatDoor
namespace Go.Proofs.YtjkpelbhhapebaaGreatDoor
open Go.RowKit
open W (Nxt)
set_option maxRecDepth 100000
section
variable {B : Nat} {c : Nat → Nat} {w : World} {a : UA} {S : US}
theorem conf_un {mu : Int} (h : UN B c w a S mu) (hk : KindOk S.T.kind) (hl : S.T.regs.length ≤ 1000000) (n cls : Int) (hc : cls = 0 ∨ cls = 1 ∨ cls = 2) :
    Calls Tryz.prog 25 #[.pointer (some ⟨a.tb, 0, none⟩), .int .i64 n, .int .u8 cls] w fun e w' => e = .returned (.bool (confB S.T n cls)) ∧ Mod (fun _ => False) w w' := by
  obtain ⟨F, ⟨v, hT, hr, -⟩, -⟩ := h.tbl
  exact conf_any a.tb n cls hc v S.T w hT hr hl hk
end
/-- READ where the table lets it through. -/
theorem unit_read2 (B : Nat) (c : Nat → Nat) (a : UA) (S : US) (D : Nat → Bl) (n lba k ab cap : Nat) (f prot : Int) (fua : Bool) (P : Value) (w : World) (h : UN B c w a S 0) (hdn : S.done = 1) (h8 : n < 8) (hD : Wel S D) (hM : S.bd < 80000) (hq : S.L n = []) (hkd : KindOk S.T.kind) (hrl : S.T.regs.length ≤ 1000000) (hT : confB S.T n 1 = false)
    (hf : FlagOk f prot fua) (hl : lba + k ≤ 32) (hk : 0 ≤ S.prot ∧ S.prot ≤ 3) (hc : 0 ≤ prot ∧ (prot = 0 ∨ 0 < S.prot ∧ prot ≤ 4)) (hr : Rd w 1 (ic .u8) (some ⟨ab, 0, none⟩) 16 (onB 136 f lba k)) (hab : c ab = 0) (hcap : 16 ≤ cap) :
    Calls Tryz.prog 10 #[.pointer (some ⟨a.u, 0, none⟩), .int .i64 n, .slice (some ⟨ab, 0, none⟩) 16 cap, P] w (ResP B c w a.u fun st key code info has Q a2 S2 => st = 0 ∧ key = 0 ∧ code = 0 ∧ info = 0 ∧ has = false ∧ Q = packL (prot != 0) ((List.range k).map fun i => D (lba + i)) ∧ a2.wb = a.wb ∧ S2 = { S with bd := S.bd + k }) :=
  do_run B c a S S n ab 16 cap _ (cmB 7 lba k fua prot false) P w h (StC.again B a S hdn) h8 hr (by omega) hab (fun W hr' => parse_rw 136 7 f prot fua lba k ab cap W (.inl ⟨rfl, rfl⟩) hf (by omega) (by omega) hr' hcap) 7 1 false rfl (by decide) (by decide) (by decide) (by decide) (by decide) hq
    (fun c' W a' U => by have := conf_un U hkd hrl n 1 (.inr (.inl rfl)); rwa [hT] at this) (by intro e; cases e) _ (fun c' W a' U e1 e2 _ => by
      rw [← e1]
      exact (run_dev B c' a' S n (cmB 7 lba k fua prot false) P W U 7 rfl (by decide) _ (fun W2 m => ((U.keep m).1.devread D hD (cmB 7 lba k fua prot false) P hM hl rfl hk hc))).mono fun e w' hres => by
        obtain ⟨st, key, code, info, has, A, n', cp, Q, c2, a2, S2, r1, r2, r3, r4, r5, r6, r7, r8, r9, r10, r11, r12, r13, r14⟩ := hres
        exact ⟨st, key, code, info, has, A, n', cp, Q, c2, a2, S2, r1, r2, r3, r4, r5, r6, r7, r8, r9, r10, r11, r12, by rw [r13, e2], r14⟩)
/-- READ and WRITE that the table keeps out. -/
theorem unit_out (B : Nat) (c : Nat → Nat) (a : UA) (S : US) (op kind cls : Int) (ho : (op = 136 ∧ kind = 7 ∧ cls = 1) ∨ (op = 138 ∧ kind = 8 ∧ cls = 2)) (n lba k ab cap : Nat) (P : Value) (w : World) (h : UN B c w a S 0) (hdn : S.done = 1) (h8 : n < 8) (hq : S.L n = []) (hkd : KindOk S.T.kind) (hrl : S.T.regs.length ≤ 1000000) (hT : confB S.T n cls = true)
    (hl : lba + k ≤ 32) (hr : Rd w 1 (ic .u8) (some ⟨ab, 0, none⟩) 16 (onB op 0 lba k)) (hab : c ab = 0) (hcap : 16 ≤ cap) :
    Calls Tryz.prog 10 #[.pointer (some ⟨a.u, 0, none⟩), .int .i64 n, .slice (some ⟨ab, 0, none⟩) 16 cap, P] w (ResP B c w a.u fun st key code info has Q a2 S2 => st = 24 ∧ key = 0 ∧ code = 0 ∧ info = 0 ∧ has = false ∧ Q = [] ∧ a2.wb = a.wb ∧ S2 = S) := by
  rcases ho with ⟨rfl, rfl, rfl⟩ | ⟨rfl, rfl, rfl⟩
  · exact do_conf B c a S S n ab 16 cap _ (cmB 7 lba k false 0 false) P w h (StC.again B a S hdn) h8 hr (by omega) hab (fun W hr' => parse_rw 136 7 0 0 false lba k ab cap W (.inl ⟨rfl, rfl⟩) flag0 (by omega) (by omega) hr' hcap) 7 1 rfl (by decide) (by decide) (by decide) (by decide) hq
      (fun c' W a' U => by have := conf_un U hkd hrl n 1 (.inr (.inl rfl)); rwa [hT] at this)
  · exact do_conf B c a S S n ab 16 cap _ (cmB 8 lba k false 0 false) P w h (StC.again B a S hdn) h8 hr (by omega) hab (fun W hr' => parse_rw 138 8 0 0 false lba k ab cap W (.inr ⟨rfl, rfl⟩) flag0 (by omega) (by omega) hr' hcap) 8 2 rfl (by decide) (by decide) (by decide) (by decide) hq
      (fun c' W a' U => by have := conf_un U hkd hrl n 2 (.inr (.inr rfl)); rwa [hT] at this)
/-- WRITE at the device. -/
theorem UN.devwrite {B : Nat} {c : Nat → Nat} {w : World} {a : UA} {S : US} (h : UN B c w a S 0) (cm : Cm) (pb pc np : Nat) (pl : List Int) (hM : S.bd < 80000) (hl : cm.lba + cm.blocks ≤ 32) (hkd : cm.kind = 8) (hk : 0 ≤ S.prot ∧ S.prot ≤ 3) (hc : cm.prot = 0)
    (hr : Rd w 1 (ic .u8) (some ⟨pb, 0, none⟩) np pl) (hn : np = cm.blocks * 16) (hn1 : 1 ≤ cm.blocks) (hnc : np ≤ pc) (hcm : pc ≤ maxLen) (hpl : Bytes pl) :
    Calls Tryz.prog 63 #[.pointer (some ⟨a.dv, 0, none⟩), .agg (cmA cm), .slice (some ⟨pb, 0, none⟩) np pc] w (ResP B c w a.u fun st key code info has Q a2 S2 => st = 0 ∧ key = 0 ∧ code = 0 ∧ info = 0 ∧ has = false ∧ Q = [] ∧ a2 = a ∧
      S2 = { S with x := laidX S.x sd cm.lba (tupd S.prot cm.lba (unL pl cm.blocks) cm.blocks) (cm.fua || !S.cache), bd := S.bd + 2 * cm.blocks + 1 }) := by
  obtain ⟨F, hW, hF⟩ := h.wu
  obtain ⟨n1, n2⟩ := h.nF hF
  refine (sdo_write B S.bd a.dv a.p a.wb pb np pc S.prot cm S.x F sd S.cache pl w h.dev.1 h.sto.1 hW n1 n2 hM hl hkd (by decide) (by decide) hk hc hr hn hn1 hnc hcm hpl).mono ?_
  rintro e w' ⟨F', rfl, hW', hN⟩
  obtain ⟨c', q1, q2⟩ := h.world hF _ _ hW' hN
  exact ⟨0, 0, 0, 0, false, none, 0, 0, [], c', a, _, rfl, Row.nil _ _ _ _, by simp [Value.ownBlock], q1, rfl, q2, rfl, rfl, rfl, rfl, rfl, rfl, rfl, rfl⟩
/-- WRITE where the table lets it through. -/
theorem unit_write (B : Nat) (c : Nat → Nat) (a : UA) (S : US) (n lba k ab cap pb pc np : Nat) (pl : List Int) (w : World) (h : UN B c w a S 0) (hdn : S.done = 1) (h8 : n < 8) (hM : S.bd < 80000) (hq : S.L n = []) (hkd : KindOk S.T.kind) (hrl : S.T.regs.length ≤ 1000000) (hT : confB S.T n 2 = false) (hsw : S.now.c = false)
    (hl : lba + k ≤ 32) (hk : 0 ≤ S.prot ∧ S.prot ≤ 3) (hr : Rd w 1 (ic .u8) (some ⟨ab, 0, none⟩) 16 (onB 138 0 lba k)) (hab : c ab = 0) (hcap : 16 ≤ cap)
    (hp : Rd w 1 (ic .u8) (some ⟨pb, 0, none⟩) np pl) (hpb : c pb = 0) (hn : np = k * 16) (hn1 : 1 ≤ k) (hnc : np ≤ pc) (hcm : pc ≤ maxLen) (hpl : Bytes pl) :
    Calls Tryz.prog 10 #[.pointer (some ⟨a.u, 0, none⟩), .int .i64 n, .slice (some ⟨ab, 0, none⟩) 16 cap, .slice (some ⟨pb, 0, none⟩) np pc] w (ResP B c w a.u fun st key code info has Q a2 S2 => st = 0 ∧ key = 0 ∧ code = 0 ∧ info = 0 ∧ has = false ∧ Q = [] ∧ a2.wb = a.wb ∧
      S2 = { S with x := laidX S.x sd lba (tupd S.prot lba (unL pl k) k) (false || !S.cache), bd := S.bd + 2 * k + 1 }) :=
  do_run B c a S S n ab 16 cap _ (cmB 8 lba k false 0 false) _ w h (StC.again B a S hdn) h8 hr (by omega) hab (fun W hr' => parse_rw 138 8 0 0 false lba k ab cap W (.inr ⟨rfl, rfl⟩) flag0 (by omega) (by omega) hr' hcap) 8 2 true rfl (by decide) (by decide) (by decide) (by decide) (by decide) hq
    (fun c' W a' U => by have := conf_un U hkd hrl n 2 (.inr (.inr rfl)); rwa [hT] at this) (fun _ => hsw) _ (fun c' W a' U e1 e2 X => by
      rw [← e1]
      exact (run_dev B c' a' S n (cmB 8 lba k false 0 false) _ W U 8 rfl (by decide) _ (fun W2 m => ((U.keep m).1.devwrite (cmB 8 lba k false 0 false) pb pc np pl hM hl rfl hk rfl ((hp.mod X.mod (fun ad e => by cases e; exact fun hh => hh hpb)).mod m (fun _ _ e => e)) hn hn1 hnc hcm hpl))).mono fun e w' hres => by
        obtain ⟨st, key, code, info, has, A, n', cp, Q, c2, a2, S2, r1, r2, r3, r4, r5, r6, r7, r8, r9, r10, r11, r12, r13, r14⟩ := hres
        exact ⟨st, key, code, info, has, A, n', cp, Q, c2, a2, S2, r1, r2, r3, r4, r5, r6, r7, r8, r9, r10, r11, r12, by rw [r13, e2], r14⟩)
end Go.Proofs.YtjkpelbhhapebaaGreatDoor
namespace Go.Proofs.YtjkpelbhhapebaaGreatDoor
open Go.RowKit
set_option maxRecDepth 100000
theorem elem50 : Elem Tryz.prog 50 (.agg #[.int .i64 0, .int .u64 0]) 2 16 := ⟨by kernel_rfl, rfl, by decide⟩
/-- Whom the table names. -/
def holdT (k o : Int) : Int := if k = 0 ∨ k = 7 ∨ k = 8 then -1 else o
set_option maxHeartbeats 2000000 in
theorem reserved_any (t : Nat) (v : Value) (T : Tb) (w : World) (h : TB w t v T) (hk : KindOk T.kind) :
    Calls Tryz.prog 29 #[.pointer (some ⟨t, 0, none⟩)] w fun e w' => e = .returned (.tuple #[.int .u8 T.kind, .int .i64 (holdT T.kind T.holder)]) ∧ Mod (fun _ => False) w w' := by
  obtain ⟨-, -, k2, k3, -⟩ := h.cells
  have hall := fun w => all_any T.kind hk w
  have hM : Hid (Mod (fun _ => False) w w) := hide (Mod.refl _ _)
  generalize T.kind = k at *
  generalize T.holder = o at *
  clear h
  rcases hk with rfl | rfl | rfl | rfl | rfl | rfl | rfl
  all_goals
    replace hall := hide hall
    go_enter Tryz.func29, Tryz.ntmps29
    go_wp2_with (first
      | (go_at_call 64; (with_reducible refine (hall.out _).mono ?_); rintro e w2 ⟨rfl, rfl⟩))
    first
    | (go_ret2; exact ⟨rfl, hM.out⟩)
    | (go_wp2_with fail
       go_ret2
       exact ⟨rfl, hM.out⟩)
    | (go_quiet (fail)
       go_wp2_with fail
       go_ret2
       exact ⟨rfl, hM.out.drewN _⟩)
set_option maxHeartbeats 2000000 in
theorem regs_any (t : Nat) (v : Value) (T : Tb) (w : World) (h : TB w t v T) (hr : Row w 50 2 encR v T.regs) (hl : T.regs.length ≤ 1000000) :
    Calls Tryz.prog 30 #[.pointer (some ⟨t, 0, none⟩)] w fun e w' => ∃ v', e = .returned v' ∧ Row w' 50 2 encR v' T.regs ∧ Mod (fun _ => False) w w' ∧ ∀ k, v'.ownBlock = some k → w.heap.size ≤ k := by
  obtain ⟨k0, -, -, -, -⟩ := h.cells
  obtain ⟨A, m, c, rfl⟩ := hr.form
  have hrd := hr.rd encR_len rfl
  have hlen : T.regs.length = m := hrd.1
  replace hr := hide hr; replace hrd := hide hrd; replace h := hide h
  go_enter Tryz.func30, Tryz.ntmps30
  go_wp2_with (at_builtin; refine list_app (.const (.slice none 0 0)) (.tmp 8) 46 50 _ 2 16 encR rfl rfl encR_len encR_one Tryz.underlying46 elem50 (.slice none 0 0) [] A m c T.regs rfl rfl (Row.nil _ _ _ _) hrd.out ?_ ?_ ?_
               (simp [maxLen]; omega)
               (simp; omega)
               intro v2 w2 r2 g2 a2
               have hM2 : Mod (fun _ => False) w w2 := (Mod.refl _ w).grown g2 (fun j hj => by simp [Value.ownBlock] at hj)
               have hn2 : ∀ k, v2.ownBlock = some k → w.heap.size ≤ k := fun k hk => by
                 rcases a2 with e | e
                 · rw [e] at hk; simp [Value.ownBlock] at hk
                 · rw [e] at hk; injection hk with hk; omega
               obtain ⟨A2, n2, c2, rfl⟩ := r2.form
               replace r2 := hide r2; replace hM2 := hide hM2; replace hn2 := hide hn2)
  go_ret
  exact ⟨_, rfl, by simpa using r2.out, hM2.out, hn2.out⟩
set_option maxHeartbeats 2000000 in
theorem table_any {B : Nat} {c : Nat → Nat} {w : World} {a : UA} {S : US} (h : UN B c w a S 0) (hk : KindOk S.T.kind) (hl : S.T.regs.length ≤ 1000000) :
    Calls Tryz.prog 14 #[.pointer (some ⟨a.u, 0, none⟩)] w fun e w' => ∃ v', e = .returned (.tuple #[v', .int .u8 S.T.kind, .int .i64 (holdT S.T.kind S.T.holder)]) ∧ Row w' 50 2 encR v' S.T.regs ∧ Mod (fun _ => False) w w' ∧ ∀ k, v'.ownBlock = some k → w.heap.size ≤ k := by
  obtain ⟨F, ⟨v, hT, hr, -⟩, -⟩ := h.tbl
  obtain ⟨-, -, -, q8, -, -, -, -, -⟩ := h.cells
  have hrs := reserved_any a.tb v S.T w hT hk
  have hrg : ∀ W, Mod (fun _ => False) w W → Calls Tryz.prog 30 #[.pointer (some ⟨a.tb, 0, none⟩)] W _ := fun W m => regs_any a.tb v S.T W (m.heap hT (fun e => e)) (hr.mod m (fun _ _ e => e)) hl
  have hq : ∀ W, Mod (fun _ => False) w W → W.cell? ⟨a.u, 8, none⟩ = some (.pointer (some ⟨a.tb, 0, none⟩)) := fun W m => m.cell q8 (fun e => e)
  replace h := hide h; replace hT := hide hT; replace hr := hide hr; replace hrs := hide hrs; replace hrg := hide hrg; replace hq := hide hq
  generalize a.u = u at *
  generalize a.tb = tb at *
  go_enter Tryz.func14, Tryz.ntmps14
  go_wp2_with (first
    | (go_at_call 29; (with_reducible refine hrs.out.mono ?_); rintro e w2 ⟨rfl, m2⟩; have q82 := hq.out w2 m2; have hrg2 := hrg.out w2 m2; replace m2 := hide m2; replace hrg2 := hide hrg2)
    | (go_at_call 30; (with_reducible refine hrg2.out.mono ?_); rintro e w3 ⟨v3, rfl, r3, m3, n3⟩
       obtain ⟨A3, n, c3, rfl⟩ := r3.form
       replace r3 := hide r3; replace m3 := hide m3; replace n3 := hide n3))
  go_ret3
  exact ⟨_, rfl, r3.out, m2.out.trans m3.out (fun _ _ e => e), fun k hk => Nat.le_trans m2.out.size (n3.out k hk)⟩
end Go.Proofs.YtjkpelbhhapebaaGreatDoor
namespace Go.Proofs.YtjkpelbhhapebaaGreatDoor
open Go.RowKit
/-- May write. -/
def mayB (k o n : Int) (reg : Bool) : Bool := k == 0 || o == n || (decide (k ≥ 5) && reg)
/-- May read. -/
def seeB (k o n : Int) (reg : Bool) : Bool := k == 0 || k == 1 || k == 5 || k == 7 || mayB k o n reg
theorem may_conf (T : Tb) (n : Int) (hk : KindOk T.kind) (hn : 0 ≤ n) : mayB T.kind (holdT T.kind T.holder) n (tkey T.regs n).2 = !confB T n 2 := by
  have hn1 : ((-1 : Int) == n) = false := by simp; omega
  unfold mayB confB holdsB holdT
  generalize (tkey T.regs n).2 = b
  generalize T.kind = k at *
  generalize T.holder = o
  cases e : (o == n)
  all_goals
    rcases hk with rfl | rfl | rfl | rfl | rfl | rfl | rfl
    all_goals
      cases b <;> simp [hn1, e]
theorem see_conf (T : Tb) (n : Int) (hk : KindOk T.kind) (hn : 0 ≤ n) : seeB T.kind (holdT T.kind T.holder) n (tkey T.regs n).2 = !confB T n 1 := by
  have hn1 : ((-1 : Int) == n) = false := by simp; omega
  unfold seeB mayB confB holdsB holdT
  generalize (tkey T.regs n).2 = b
  generalize T.kind = k at *
  generalize T.holder = o
  cases e : (o == n)
  all_goals
    rcases hk with rfl | rfl | rfl | rfl | rfl | rfl | rfl
    all_goals
      cases b <;> simp [hn1, e]
end Go.Proofs.YtjkpelbhhapebaaGreatDoor
namespace Go.Proofs.YtjkpelbhhapebaaGreatDoor
open Go.RowKit
set_option maxRecDepth 100000
theorem lasts_any (t : Nat) (v : Value) (T : Tb) (w : World) (h : TB w t v T) :
    Calls Tryz.prog 91 #[.pointer (some ⟨t, 0, none⟩)] w fun e w' => e = .returned (.bool T.aptpl) ∧ Mod (fun _ => False) w w' := by
  obtain ⟨-, -, -, -, k4⟩ := h.cells
  have hM : Hid (Mod (fun _ => False) w w) := hide (Mod.refl _ _)
  generalize T.aptpl = b at *
  clear h
  cases b
  all_goals
    go_enter Tryz.func91, Tryz.ntmps91
    go_wp2_with fail
    go_ret
    exact ⟨rfl, hM.out⟩
end Go.Proofs.YtjkpelbhhapebaaGreatDoor
