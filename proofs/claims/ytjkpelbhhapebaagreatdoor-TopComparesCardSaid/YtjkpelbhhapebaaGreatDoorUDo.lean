/-
  Unit.Do, walked: what waits is told; what may be done runs. Its parts' contracts are asked. Conditions: as stated.
-/
import Derived.Test.YtjkpelbhhapebaaGreatDoorUNew
import Derived.BigQuiet
namespace Go.Proofs.YtjkpelbhhapebaaGreatDoor
open Go.RowKit
open W (Nxt)
set_option maxRecDepth 100000
/-- A result, with its data, and the state of the unit behind it. -/
def ResP (B : Nat) (c : Nat → Nat) (w : World) (u : Nat) (RR : Int → Int → Int → Int → Bool → List Int → UA → US → Prop) (e : Ending) (w' : World) : Prop :=
  ∃ st key code info has A n cp D c2 a2 S2, e = .returned (rsA st key code info has (.slice A n cp)) ∧ Row w' 5 1 (ic .u8) (.slice A n cp) D ∧ (∀ k, (Value.slice A n cp).ownBlock = some k → w.heap.size ≤ k ∧ c2 k = 0) ∧ UN B c2 w' a2 S2 0 ∧ a2.u = u ∧ UX B c c2 w w' ∧ RR st key code info has D a2 S2
/-- Start leaves just that state. -/
def StC (B : Nat) (a : UA) (S S1 : US) : Prop := ∀ c W, UN B c W a S 0 → Calls Tryz.prog 21 #[.pointer (some ⟨a.u, 0, none⟩)] W fun e w' => e = .returned (.int .i64 0) ∧ Lft B c W a.u 0 (fun a' S' => a'.wb = a.wb ∧ S' = S1) w'
theorem StC.again (B : Nat) (a : UA) (S : US) (h : S.done = 1) : StC B a S S := fun c W U => (start_again B c a S W U h).mono fun _ _ ⟨e1, e2⟩ => ⟨e1, c, a, S, (U.keep e2).1, rfl, (U.keep e2).2, rfl, rfl⟩
theorem StC.first (B : Nat) (a : UA) (S : US) (hd : S.done = 0) (hM : S.bd < 90000) (h0 : S.x.seen (spn 0) = none) (h1 : S.x.seen (spn 1) = none) :
    StC B a S { S with L := powK S.L 8, bd := S.bd + 2, sure := true, at_ := -1, gen := 0, done := 1 } := fun c W U =>
  (start_first B c a S (fun a' S' => a'.wb = a.wb ∧ S' = { S with L := powK S.L 8, bd := S.bd + 2, sure := true, at_ := -1, gen := 0 }) W U hd (fun c W U => (load_none B c a S 1 W U hM h0 h1).mono fun e w' ⟨c', e1, e2, e3⟩ => ⟨e1, c', a, _, e2, rfl, e3, rfl, rfl⟩)).mono
    fun e w' ⟨e1, c', a', S', e2, e3, e4, S0, e5, e6, e7⟩ => ⟨e1, c', a', S', e2, e3, e4, e6, by rw [e5, e7]⟩
theorem UX.keep0 {B : Nat} {c c' : Nat → Nat} {w w' : World} {g : Nat} {o : Obj} (h : UX B c c' w w') (hg : w.heap[g]? = some o) (hc : c g = 0) : w'.heap[g]? = some o ∧ c' g = 0 := by
  have hl := (Array.getElem?_eq_some_iff.1 hg).1
  exact ⟨h.mod.heap hg (fun e => e hc), by rw [h.col g hl, hc]⟩
theorem UX.own {B g : Nat} {c c' : Nat → Nat} {w w1 w2 : World} (h : UX B c c' w w1) (m : Mod (fun k => k = g) w1 w2) (hg : w.heap.size ≤ g) (hB : B ≤ w.heap.size) : UX B c c' w w2 :=
  ⟨h.col, h.mod.trans m (fun i hi e => by omega), h.bel.trans ⟨m.os, m.tape, m.output, m.size, fun k hk => m.block k (by have := h.mod.size; omega) (by omega)⟩⟩
/-- A command's load, peeked at: nothing waits, or what goes first. -/
theorem UN.peek0 {B : Nat} {c : Nat → Nat} {w : World} {a : UA} {S : US} {mu : Int} (h : UN B c w a S mu) (n : Nat) (h8 : n < 8) (he : S.L n = []) :
    Calls Tryz.prog 23 #[.pointer (some ⟨a.qb, 0, none⟩), .int .i64 n] w fun e w' => e = .returned (.tuple #[.int .u16 0, .bool false]) ∧ Mod (fun _ => False) w w' := by
  obtain ⟨F, hQ, -⟩ := h.qu
  exact (A.peek_empty a.qb n S.L F w (by omega) (by omega) hQ (by simpa using he)).mono fun e w' ⟨e1, m, e2⟩ => ⟨e1, by rw [e2]; exact (Mod.refl _ w).drewN m⟩
theorem UN.peek1 {B : Nat} {c : Nat → Nat} {w : World} {a : UA} {S : US} {mu : Int} (h : UN B c w a S mu) (n : Nat) (h8 : n < 8) (he : 0 < (S.L n).length) :
    Calls Tryz.prog 23 #[.pointer (some ⟨a.qb, 0, none⟩), .int .i64 n] w fun e w' => e = .returned (.tuple #[.int .u16 (gi (S.L n) (A.fi (S.L n) (S.L n).length).toNat), .bool true]) ∧ Mod (fun _ => False) w w' := by
  obtain ⟨F, hQ, -⟩ := h.qu
  exact (A.peek_some a.qb n S.L F w (by omega) (by omega) hQ (by simpa using he)).mono fun e w' ⟨e1, m, e2⟩ => ⟨by simpa using e1, by rw [e2]; exact (Mod.refl _ w).drewN m⟩
/-- What is left of a list when what goes first is told. -/
def popL (l : List Int) : List Int := l.take (A.fi l l.length).toNat ++ l.drop ((A.fi l l.length).toNat + 1)
theorem UN.next1 {B : Nat} {c : Nat → Nat} {w : World} {a : UA} {S : US} {mu : Int} (h : UN B c w a S mu) (n : Nat) (h8 : n < 8) (he : 0 < (S.L n).length) :
    Calls Tryz.prog 24 #[.pointer (some ⟨a.qb, 0, none⟩), .int .i64 n] w fun e w' => ∃ c', e = .returned (.tuple #[.int .u16 (gi (S.L n) (A.fi (S.L n) (S.L n).length).toNat), .bool true]) ∧ UN B c' w' a { S with L := A.put S.L n (popL (S.L n)) } mu ∧ UX B c c' w w' := by
  obtain ⟨F, hQ, hF⟩ := h.qu
  have hfi := (A.fi_lt (S.L n) (S.L n).length).2.2 he
  obtain ⟨i, hi⟩ := Int.eq_ofNat_of_zero_le hfi
  exact (A.next_some a.qb n S.L F w (by omega) (by omega) hQ i (by simpa using hi)).mono fun e w' ⟨e1, e2, e3⟩ => by
    simp only [Int.toNat_natCast] at e1 e2
    have hp : popL (S.L n) = (S.L n).take i ++ (S.L n).drop (i + 1) := by rw [popL, hi]; rfl
    obtain ⟨c', q1, q2⟩ := h.queue hF _ e2 e3
    refine ⟨c', by rw [e1, hi]; rfl, ?_, q2⟩
    rw [hp]
    exact q1
theorem UN.next0 {B : Nat} {c : Nat → Nat} {w : World} {a : UA} {S : US} {mu : Int} (h : UN B c w a S mu) (n : Nat) (h8 : n < 8) (he : S.L n = []) :
    Calls Tryz.prog 24 #[.pointer (some ⟨a.qb, 0, none⟩), .int .i64 n] w fun e w' => e = .returned (.tuple #[.int .u16 0, .bool false]) ∧ Mod (fun _ => False) w w' := by
  obtain ⟨F, hQ, -⟩ := h.qu
  exact (A.next_empty a.qb n S.L F w (by omega) (by omega) hQ (by simpa using he)).mono fun e w' ⟨e1, m, e2⟩ => ⟨e1, by rw [e2]; exact (Mod.refl _ w).drewN m⟩
set_option maxHeartbeats 8000000 in
/-- Something waits: it is told. -/
theorem do_wait (B : Nat) (c : Nat → Nat) (a : UA) (S S1 : US) (n ab na cap : Nat) (L : List Int) (cm : Cm) (P : Value) (w : World) (h : UN B c w a S 0) (hst : StC B a S S1) (h8 : n < 8) (hr : Rd w 1 (ic .u8) (some ⟨ab, 0, none⟩) na L) (hna : 0 < na) (hab : c ab = 0)
    (hpa : ∀ W, Rd W 1 (ic .u8) (some ⟨ab, 0, none⟩) na L → Calls Tryz.prog 22 #[.slice (some ⟨ab, 0, none⟩) na cap] W fun e w' => e = .returned (.tuple #[.agg (cmA cm), .agg (seA 0 0 0 false), .bool true]) ∧ Mod (fun _ => False) W w')
    (k : Int) (hkd : cm.kind = k) (t3 : (k == 3) = false) (t17 : (k == 17) = false) (t2 : (k == 2) = false) (hw : 0 < (S1.L n).length) :
    Calls Tryz.prog 10 #[.pointer (some ⟨a.u, 0, none⟩), .int .i64 n, .slice (some ⟨ab, 0, none⟩) na cap, P] w
      (ResP B c w a.u fun st key code info has D a2 S2 => st = 2 ∧ key = 6 ∧ code = gi (S1.L n) (A.fi (S1.L n) (S1.L n).length).toNat ∧ info = 0 ∧ has = false ∧ D = [] ∧ a2.wb = a.wb ∧ S2 = { S1 with L := A.put S1.L n (popL (S1.L n)) }) := by
  obtain ⟨code, hcode⟩ : ∃ code, code = gi (S1.L n) (A.fi (S1.L n) (S1.L n).length).toNat := ⟨_, rfl⟩
  rw [← hcode]
  have hck := fun w => check_any 6 code 0 false w
  replace hck := hide hck; replace hw := hide hw; replace hcode := hide hcode
  obtain ⟨u, hu⟩ : ∃ u, u = a.u := ⟨_, rfl⟩
  have hd0 : decide ((n : Int) < 0) = false := by simp
  have hd8 : decide ((8 : Int) ≤ n) = false := by simp; omega
  have hablt := hr.lt0 hna
  have hult : u < w.heap.size := by rw [hu]; exact h.ult
  rw [← hu]
  replace h := hide h; replace hst := hide hst; replace hpa := hide hpa; replace hr := hide hr; replace hu := hide hu; replace hab := hide hab
  go_enter Tryz.func10, Tryz.ntmps10
  go_wp2_with (first
    | (refine list_al 35 _ new35' rfl rfl ?_
       intro w1 g8 hg8 h81 m1 hz1
       have U1 := (h.out.keep m1).1
       have X1 := (h.out.keep m1).2
       obtain ⟨k5, -, -, -, -, -, -, -, -⟩ := U1.cells
       obtain ⟨cn, hcn⟩ := U1.own.1
       have hct := count_any a S.prot S.done 0 cn w1 hcn
       have c8 : c g8 = 0 := h.out.sup _ (by omega)
       rw [← hu.out] at k5 hct
       replace hg8 := hide hg8; replace h81 := hide h81; replace m1 := hide m1; replace hz1 := hide hz1; replace U1 := hide U1; replace X1 := hide X1; replace hct := hide hct; replace hcn := hide hcn; replace c8 := hide c8)
    | (go_at_call 20; (with_reducible refine hct.out.mono ?_); rintro e w2 ⟨rv, cm2, rfl, ub2, m2, z2⟩
       rw [hu.out] at m2
       obtain ⟨U2, X2⟩ := U1.out.self ub2 m2 z2
       have h82 := X2.keep0 h81.out c8.out
       have hs2 := hst.out c w2 U2
       have X12 := X1.out.trans X2
       rw [← hu.out] at hs2
       replace U2 := hide U2; replace X12 := hide X12; replace h82 := hide h82; replace hs2 := hide hs2; clear X2 m2 ub2 z2)
    | (go_at_call 21; (with_reducible refine hs2.out.mono ?_); rintro e w3 ⟨rfl, hL⟩
       obtain ⟨c3, a3, S3, U3, hu3, X3, hwb3, hS3⟩ := hL
       have hS3 := hS3.symm
       subst hS3
       have h83 := X3.keep0 h82.out.1 h82.out.2
       have X13 := X12.out.trans X3
       have hr3 := hr.out.mod X13.mod (fun ad e k => by obtain rfl := Option.some.inj e; exact k hab.out)
       have hp3 := hpa.out w3 hr3
       replace U3 := hide U3; replace hu3 := hide hu3; replace X13 := hide X13; replace h83 := hide h83; replace hp3 := hide hp3; replace hwb3 := hide hwb3; clear X3 hr3)
    | (go_at_call 22; (with_reducible refine hp3.out.mono ?_); rintro e w4 ⟨rfl, m4⟩
       have U4 := (U3.out.keep m4).1
       have X14 := X13.out.trans (U3.out.keep m4).2
       have h84 := m4.heap h83.out.1 (fun h => h)
       have c84 := h83.out.2
       replace U4 := hide U4; replace X14 := hide X14; replace h84 := hide h84; replace c84 := hide c84; clear m4)
    | (refine list_al 104 _ new104 rfl rfl ?_
       intro w5 g9 hg9 h95 m5 hz5
       replace hg9 := hide hg9; replace h95 := hide h95; replace m5 := hide m5; replace hz5 := hide hz5)
    | (refine list_al 33 _ new33 rfl rfl ?_
       intro w6 g10 hg10 h106 m6 hz6
       have h96 := m6.heap h95.out (fun h => h)
       replace hg10 := hide hg10; replace h106 := hide h106; replace m6 := hide m6; replace hz6 := hide hz6; replace h96 := hide h96)
    | (refine list_put 104 (.tmp 9) (.tmp 46) rfl rfl g9 (cmA cm) rfl rfl (cmA (cm0 0)) h96.out rfl size104 (cm_one _) ?_
       intro w7 h97 m7
       have h107 := m7.heap h106.out (fun e => by have := hg10.out; have := hg9.out; have := hz5.out; omega)
       replace h97 := hide h97; replace m7 := hide m7; replace h107 := hide h107)
    | (refine list_put 33 (.tmp 10) (.tmp 47) rfl rfl g10 (seA 0 0 0 false) rfl rfl (seA 0 0 0 false) h107.out rfl size33 (se_one _ _ _ _) ?_
       intro w8 h108 m8
       have h98 := m8.heap h97.out (fun e => by have := hg10.out; have := hg9.out; have := hz5.out; omega)
       have M48 : Mod (fun _ => False) w4 w8 := ((m5.out.trans m6.out (fun _ _ h => h)).trans m7.out (fun i hi e => by have := hg9.out; omega)).trans m8 (fun i hi e => by have := hg10.out; have := hz5.out; have := hg9.out; omega)
       have U8 := (U4.out.keep M48).1
       have X18 := X14.out.trans (U4.out.keep M48).2
       have h88 := M48.heap h84.out (fun h => h)
       have c98 : c3 g9 = 0 := U4.out.sup _ (by have := hg9.out; omega)
       obtain ⟨-, -, -, -, k9, -, -, -, -⟩ := U8.cells
       rw [hu3.out] at k9
       have kk : w8.cell? ⟨g9, 0, none⟩ = some (.int .u8 cm.kind) := CM.c0 h98
       have hpk := U8.peek1 n h8 hw.out
       rw [← hcode.out] at hpk
       have kk := kk
       rw [hkd] at kk
       replace h108 := hide h108; replace h98 := hide h98; replace M48 := hide M48; replace U8 := hide U8; replace X18 := hide X18; replace h88 := hide h88; replace c98 := hide c98; replace hpk := hide hpk)
    | (go_at_call 23; (with_reducible refine hpk.out.mono ?_); rintro e w9 ⟨rfl, m9⟩
       have U9 := (U8.out.keep m9).1
       have X19 := X18.out.trans (U8.out.keep m9).2
       have h89 := m9.heap h88.out (fun h => h)
       obtain ⟨-, -, -, -, q9, -, -, -, -⟩ := U9.cells
       rw [hu3.out] at q9
       have hnx := U9.next1 n h8 hw.out
       rw [← hcode.out] at hnx
       replace U9 := hide U9; replace X19 := hide X19; replace h89 := hide h89; replace hnx := hide hnx; clear m9)
    | (go_at_call 24; (with_reducible refine hnx.out.mono ?_); rintro e w10 ⟨c10, rfl, U10, X10⟩
       have h810 := X10.keep0 h89.out c84.out
       have X110 := X19.out.trans X10
       replace U10 := hide U10; replace X110 := hide X110; replace h810 := hide h810; clear X10)
    | (go_at_call 19; (with_reducible refine (hck.out _).mono ?_); rintro e w11 ⟨rfl, m11⟩
       have U11 := (U10.out.keep m11).1
       have X111 := X110.out.trans (U10.out.keep m11).2
       have h811 := m11.heap h810.out.1 (fun h => h)
       replace U11 := hide U11; replace X111 := hide X111; replace h811 := hide h811; clear m11)
    | (refine list_put 35 (.tmp 8) (.tmp 88) rfl rfl g8 (rcA 2 6 code 0 false (.slice none 0 0)) rfl rfl zs35 h811.out rfl size35 (rc_one _ _ _ _ _ _ _ _) ?_
       intro w12 h12 m12; replace h12 := hide h12; replace m12 := hide m12))
  have U12 := U11.out.mod m12.out (fun k e => by rw [e]; exact h810.out.2)
  have X112 := X111.out.own m12.out (by rw [hg8.out]; exact Nat.le_refl _) h.out.big
  exact bodyPost_ret (v := rsA 2 6 code 0 false (.slice none 0 0)) (results_one rfl rfl (load_whole h12.out Tryz.underlying35 rfl size35)) rfl ⟨2, 6, code, 0, false, none, 0, 0, [], c10, a3, _, rfl, Row.nil _ _ _ _, by simp [Value.ownBlock], U12, hu3.out, X112, rfl, rfl, rfl, rfl, rfl, rfl, hwb3.out, rfl⟩
set_option maxHeartbeats 16000000 in
/-- What may be done runs. -/
theorem do_run (B : Nat) (c : Nat → Nat) (a : UA) (S S1 : US) (n ab na cap : Nat) (L : List Int) (cm : Cm) (P : Value) (w : World) (h : UN B c w a S 0) (hst : StC B a S S1) (h8 : n < 8) (hr : Rd w 1 (ic .u8) (some ⟨ab, 0, none⟩) na L) (hna : 0 < na) (hab : c ab = 0)
    (hpa : ∀ W, Rd W 1 (ic .u8) (some ⟨ab, 0, none⟩) na L → Calls Tryz.prog 22 #[.slice (some ⟨ab, 0, none⟩) na cap] W fun e w' => e = .returned (.tuple #[.agg (cmA cm), .agg (seA 0 0 0 false), .bool true]) ∧ Mod (fun _ => False) W w')
    (k cls : Int) (al : Bool) (hkd : cm.kind = k) (hcl : (k, cls) ∈ classOf) (hal : (k, al) ∈ altersOf) (t3 : (k == 3) = false) (t17 : (k == 17) = false) (t2 : (k == 2) = false) (hw : S1.L n = [])
    (hcon : ∀ c' W a', UN B c' W a' S1 0 → Calls Tryz.prog 25 #[.pointer (some ⟨a'.tb, 0, none⟩), .int .i64 n, .int .u8 cls] W fun e w' => e = .returned (.bool false) ∧ Mod (fun _ => False) W w') (hsw : al = true → S1.now.c = false)
    (RR : Int → Int → Int → Int → Bool → List Int → UA → US → Prop)
    (hrun : ∀ c' W a', UN B c' W a' S1 0 → a'.u = a.u → a'.wb = a.wb → UX B c c' w W → Calls Tryz.prog 28 #[.pointer (some ⟨a.u, 0, none⟩), .int .i64 n, .agg (cmA cm), P] W (ResP B c' W a.u RR)) :
    Calls Tryz.prog 10 #[.pointer (some ⟨a.u, 0, none⟩), .int .i64 n, .slice (some ⟨ab, 0, none⟩) na cap, P] w (ResP B c w a.u RR) := by
  replace hw := hide hw; replace hcon := hide hcon; replace hal := hide hal; replace hcl := hide hcl
  replace hrun := hide hrun
  obtain ⟨u, hu⟩ : ∃ u, u = a.u := ⟨_, rfl⟩
  have hd0 : decide ((n : Int) < 0) = false := by simp
  have hd8 : decide ((8 : Int) ≤ n) = false := by simp; omega
  have hablt := hr.lt0 hna
  have hult : u < w.heap.size := by rw [hu]; exact h.ult
  rw [← hu] at hrun ⊢
  replace h := hide h; replace hst := hide hst; replace hpa := hide hpa; replace hr := hide hr; replace hu := hide hu; replace hab := hide hab
  go_enter Tryz.func10, Tryz.ntmps10
  go_wp2_with (first
    | (refine list_al 35 _ new35' rfl rfl ?_
       intro w1 g8 hg8 h81 m1 hz1
       have U1 := (h.out.keep m1).1
       have X1 := (h.out.keep m1).2
       obtain ⟨k5, -, -, -, -, -, -, -, -⟩ := U1.cells
       obtain ⟨cn, hcn⟩ := U1.own.1
       have hct := count_any a S.prot S.done 0 cn w1 hcn
       have c8 : c g8 = 0 := h.out.sup _ (by omega)
       rw [← hu.out] at k5 hct
       replace hg8 := hide hg8; replace h81 := hide h81; replace m1 := hide m1; replace hz1 := hide hz1; replace U1 := hide U1; replace X1 := hide X1; replace hct := hide hct; replace hcn := hide hcn; replace c8 := hide c8)
    | (go_at_call 20; (with_reducible refine hct.out.mono ?_); rintro e w2 ⟨rv, cm2, rfl, ub2, m2, z2⟩
       rw [hu.out] at m2
       obtain ⟨U2, X2⟩ := U1.out.self ub2 m2 z2
       have h82 := X2.keep0 h81.out c8.out
       have hs2 := hst.out c w2 U2
       have X12 := X1.out.trans X2
       rw [← hu.out] at hs2
       replace U2 := hide U2; replace X12 := hide X12; replace h82 := hide h82; replace hs2 := hide hs2; clear X2 m2 ub2 z2)
    | (go_at_call 21; (with_reducible refine hs2.out.mono ?_); rintro e w3 ⟨rfl, hL⟩
       obtain ⟨c3, a3, S3, U3, hu3, X3, hwb3, hS3⟩ := hL
       have hS3 := hS3.symm
       subst hS3
       have h83 := X3.keep0 h82.out.1 h82.out.2
       have X13 := X12.out.trans X3
       have hr3 := hr.out.mod X13.mod (fun ad e k => by obtain rfl := Option.some.inj e; exact k hab.out)
       have hp3 := hpa.out w3 hr3
       replace U3 := hide U3; replace hu3 := hide hu3; replace X13 := hide X13; replace h83 := hide h83; replace hp3 := hide hp3; replace hwb3 := hide hwb3; clear X3 hr3)
    | (go_at_call 22; (with_reducible refine hp3.out.mono ?_); rintro e w4 ⟨rfl, m4⟩
       have U4 := (U3.out.keep m4).1
       have X14 := X13.out.trans (U3.out.keep m4).2
       have h84 := m4.heap h83.out.1 (fun h => h)
       have c84 := h83.out.2
       replace U4 := hide U4; replace X14 := hide X14; replace h84 := hide h84; replace c84 := hide c84; clear m4)
    | (refine list_al 104 _ new104 rfl rfl ?_
       intro w5 g9 hg9 h95 m5 hz5
       replace hg9 := hide hg9; replace h95 := hide h95; replace m5 := hide m5; replace hz5 := hide hz5)
    | (refine list_al 33 _ new33 rfl rfl ?_
       intro w6 g10 hg10 h106 m6 hz6
       have h96 := m6.heap h95.out (fun h => h)
       replace hg10 := hide hg10; replace h106 := hide h106; replace m6 := hide m6; replace hz6 := hide hz6; replace h96 := hide h96)
    | (refine list_put 104 (.tmp 9) (.tmp 46) rfl rfl g9 (cmA cm) rfl rfl (cmA (cm0 0)) h96.out rfl size104 (cm_one _) ?_
       intro w7 h97 m7
       have h107 := m7.heap h106.out (fun e => by have := hg10.out; have := hg9.out; have := hz5.out; omega)
       replace h97 := hide h97; replace m7 := hide m7; replace h107 := hide h107)
    | (refine list_put 33 (.tmp 10) (.tmp 47) rfl rfl g10 (seA 0 0 0 false) rfl rfl (seA 0 0 0 false) h107.out rfl size33 (se_one _ _ _ _) ?_
       intro w8 h108 m8
       have h98 := m8.heap h97.out (fun e => by have := hg10.out; have := hg9.out; have := hz5.out; omega)
       have M48 : Mod (fun _ => False) w4 w8 := ((m5.out.trans m6.out (fun _ _ h => h)).trans m7.out (fun i hi e => by have := hg9.out; omega)).trans m8 (fun i hi e => by have := hg10.out; have := hz5.out; have := hg9.out; omega)
       have U8 := (U4.out.keep M48).1
       have X18 := X14.out.trans (U4.out.keep M48).2
       have h88 := M48.heap h84.out (fun h => h)
       have c98 : c3 g9 = 0 := U4.out.sup _ (by have := hg9.out; omega)
       obtain ⟨-, -, -, -, k9, -, -, -, -⟩ := U8.cells
       rw [hu3.out] at k9
       have kk : w8.cell? ⟨g9, 0, none⟩ = some (.int .u8 cm.kind) := CM.c0 h98
       have hpk := U8.peek0 n h8 hw.out
       have kk := kk
       rw [hkd] at kk
       replace h108 := hide h108; replace h98 := hide h98; replace M48 := hide M48; replace U8 := hide U8; replace X18 := hide X18; replace h88 := hide h88; replace c98 := hide c98; replace hpk := hide hpk)
    | (go_at_call 23; (with_reducible refine hpk.out.mono ?_); rintro e w9 ⟨rfl, m9⟩
       have U9 := (U8.out.keep m9).1
       have X19 := X18.out.trans (U8.out.keep m9).2
       have h89 := m9.heap h88.out (fun h => h)
       have h99 : CM w9 g9 cm := m9.heap h98.out (fun h => h)
       replace U9 := hide U9; replace X19 := hide X19; replace h89 := hide h89; replace h99 := hide h99; clear m9))
  obtain ⟨-, -, -, q8, -, -, -, -, -⟩ := U9.out.cells
  rw [hu3.out] at q8
  have s0 : w9.cell? ⟨g9, 0, none⟩ = some (.int .u8 k) := by rw [h99.out.c0, hkd]
  have hS : ∀ W, Mod (fun _ => False) w9 W → W.cell? ⟨u, 8, none⟩ = some (.pointer (some ⟨a3.tb, 0, none⟩)) ∧ W.cell? ⟨g9, 0, none⟩ = some (.int .u8 k) := fun W m => ⟨m.cell q8 (fun h => h), m.cell s0 (fun h => h)⟩
  clear q8 s0
  have hcla := fun W => class_any k cls hcl.out W
  have hco9 := fun W (m : Mod (fun _ => False) w9 W) => hcon.out c3 W a3 (U9.out.keep m).1
  replace hS := hide hS; replace hcla := hide hcla; replace hco9 := hide hco9
  go_region_held3 (fun w' => w'.cell? ⟨u, 8, none⟩ = some (.pointer (some ⟨a3.tb, 0, none⟩)) ∧ w'.cell? ⟨g9, 0, none⟩ = some (.int .u8 k))
    (first | exact hS.out _ ((Mod.refl _ w9).drew) | exact hS.out _ M910.out)
    (first
    | (go_at_call 17; (with_reducible refine (hcla.out _).mono ?_); rintro e w' ⟨rfl, rfl⟩)
    | (go_at_call 25; (with_reducible refine (hco9.out _ ((Mod.refl _ w9).drew)).mono ?_); rintro e w10 ⟨rfl, m10⟩
       have M910 : Mod (fun _ => False) w9 w10 := ((Mod.refl _ w9).drew).trans m10 (fun _ _ h => h)
       replace M910 := hide M910; clear m10))
  have U10 := (U9.out.keep M910.out).1
  have X110 := X19.out.trans (U9.out.keep M910.out).2
  have h810 := M910.out.heap h89.out (fun h => h)
  have h910 : CM w10 g9 cm := M910.out.heap h99.out (fun h => h)
  obtain ⟨-, -, r7, -, -, -, -, -, -⟩ := U10.cells
  rw [hu3.out] at r7
  have s0 : w10.cell? ⟨g9, 0, none⟩ = some (.int .u8 k) := by rw [h910.c0, hkd]
  replace U10 := hide U10; replace X110 := hide X110; replace h810 := hide h810; replace h910 := hide h910
  have hala := fun W => alters_any k al hal.out W
  have hnow := M.now_some a3.pg S1.now S1.saved w10 U10.out.pgs.1
  have hf2 := M.field2 S1.now.a S1.now.b S1.now.c
  obtain ⟨sw, hsw2⟩ : ∃ sw, sw = S1.now.c := ⟨_, rfl⟩
  rw [← hsw2] at hnow hf2 hsw
  have hru10 := fun W (m : Mod (fun _ => False) w10 W) => hrun.out c3 W a3 (U10.out.keep m).1 (by rw [hu3.out]) hwb3.out (X110.out.trans (U10.out.keep m).2)
  cases al
  case' true =>
    have hsw := hsw rfl
    subst hsw
  all_goals
    replace hala := hide hala; replace hnow := hide hnow; replace hru10 := hide hru10; replace hsw2 := hide hsw2
    go_wp2_with (first
      | (go_at_call 26; (with_reducible refine (hala.out _).mono ?_); rintro e w' ⟨rfl, rfl⟩)
      | (go_at_call 27; (with_reducible refine hnow.out.mono ?_); rintro e w11 ⟨rfl, m11⟩
         have U11 := (U10.out.keep m11).1
         have h811 := m11.heap h810.out (fun h => h)
         have h911 : CM w11 g9 cm := m11.heap h910.out (fun h => h)
         have hru := hru10.out w11 m11
         have X111 := X110.out.trans (U10.out.keep m11).2
         have M11 := m11
         replace U11 := hide U11; replace h811 := hide h811; replace h911 := hide h911; replace hru := hide hru; replace X111 := hide X111; replace M11 := hide M11; clear m11)
      | (refine list_whole 104 (.tmp 9) rfl rfl ⟨g9, 0, none⟩ (cmA cm) rfl (load_whole h911.out Tryz.underlying104 rfl size104) ?_)
      | (refine list_whole 104 (.tmp 9) rfl rfl ⟨g9, 0, none⟩ (cmA cm) rfl (load_whole h910.out Tryz.underlying104 rfl size104) ?_
         have hru := hru10.out w10 (Mod.refl _ _)
         have h811 := h810.out
         have X111 := X110.out
         have M11 : Mod (fun _ => False) w10 w10 := Mod.refl _ _
         replace h811 := hide h811; replace hru := hide hru; replace X111 := hide X111; replace M11 := hide M11)
      | (go_at_call 28; (with_reducible refine hru.out.mono ?_); rintro e w12 ⟨st, key, code, info, has, A, dn, dc, D, c12, a12, S12, rfl, hrow, hown, U12, hu12, X12, hRR⟩
         have h812 := X12.keep0 h811.out c84.out
         replace hrow := hide hrow; replace hown := hide hown; replace U12 := hide U12; replace hu12 := hide hu12; replace hRR := hide hRR; replace h812 := hide h812; replace X12 := hide X12)
      | (refine list_put 35 (.tmp 8) (.tmp 116) rfl rfl g8 (rcA st key code info has (.slice A dn dc)) rfl rfl zs35 h812.out.1 rfl size35 (rc_one _ _ _ _ _ _ _ _) ?_
         intro w13 h13 m13; replace h13 := hide h13; replace m13 := hide m13))
    have U13 := U12.out.mod m13.out (fun k e => by rw [e]; exact h812.out.2)
    have X113 := (X111.out.trans X12.out).own m13.out (by rw [hg8.out]; exact Nat.le_refl _) h.out.big
    have hs11 := X111.out.mod.size
    have hl8 := (Array.getElem?_eq_some_iff.1 h811.out).1
    exact bodyPost_ret (v := rsA st key code info has (.slice A dn dc)) (results_one rfl rfl (load_whole h13.out Tryz.underlying35 rfl size35)) rfl ⟨st, key, code, info, has, A, dn, dc, D, c12, a12, S12, rfl, hrow.out.mod m13.out (fun k hk e => by
      have := (hown.out k hk).1
      omega), fun k hk => ⟨Nat.le_trans hs11 (hown.out k hk).1, (hown.out k hk).2⟩, U13, hu12.out, X113, hRR.out⟩
end Go.Proofs.YtjkpelbhhapebaaGreatDoor
