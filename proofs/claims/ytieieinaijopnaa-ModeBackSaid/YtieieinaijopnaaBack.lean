/-
  The walk of ModeBack. No condition.
-/
import Derived.Test.YtieieinaijopnaaTells
import Derived.Test.YtieieinaijopnaaSel
import Derived.Test.YtieieinaijopnaaTwo
namespace Go.Proofs.Ytieieinaijopnaa.modeBack
open Go.ChangeShapes Go.WideShapes Go.ChangeAt Go.RowKit Go.Deep
open Go.Proofs.Ytieieinaijopnaa.modeTells (sense_n)
set_option linter.unusedVariables false
/-- The command that asks for all pages. -/
abbrev askAll (long : Bool) : C := ⟨0, long, 0, 0, 0, false, 0, false, false, 63, 0, false, 0, 0, false⟩
/-- The command that brings. -/
abbrev bring (long save : Bool) : C := ⟨0, long, 0, 0, 0, false, 0, false, false, 0, 0, save, 0, 0, false⟩
/-- What is brought: what was told, its first two bytes as nothing. -/
def backL (long : Bool) (v : V) : List Int := ((senseL (askAll long) v v).set 0 0).set 1 0
theorem back_sel (long save : Bool) (v n s n' s' : V) (ch ok : Bool) (sn : SN) (h : SelR (backL long v) long save n s ch sn ok n' s') : ok = true ∧ n' = v ∧ ch = (v != n) ∧ s' = if save then v else s := by
  have hb : backL long v = (if long then [0, 0, 0, devB v, 0, 0, 0, 0] else [0, 0, devB v, 0]) ++ (cachL v ++ ctlL v) := by cases long <;> rfl
  have h1 := sel_two (L := backL long v) (n1 := 20) (n2 := 12) (f := fun x => ⟨v.a, x.b, x.c⟩) (g := fun x => ⟨x.a, v.b, v.c⟩) (by cases long <;> rfl) (by decide) (by decide)
    (by
      intro j h1 h2
      cases long
      · have : j = 0 ∨ j = 1 ∨ j = 3 := by simp [hdN, devN] at h1 h2; omega
        rcases this with rfl | rfl | rfl <;> rfl
      · have : j = 0 ∨ j = 1 ∨ j = 2 ∨ j = 4 ∨ j = 5 ∨ j = 6 ∨ j = 7 := by simp [hdN, devN] at h1 h2; omega
        rcases this with rfl | rfl | rfl | rfl | rfl | rfl | rfl <;> rfl)
    (fun a b c d e hp => cach_det (u := v) ⟨ctlL v, by cases long <;> rfl⟩ hp)
    (fun a b c d e hp => ctl_det (u := v) ⟨[], by cases long <;> rfl⟩ hp) h
  obtain ⟨q1, q2, q3, q4⟩ := h1
  subst q2
  exact ⟨q1, rfl, q3, q4⟩
/-- The two boxes. -/
def Bx (W : World) (b c : Nat) (v u : V) : Prop := W.heap[b]? = some (.cells #[.bool v.a, .bool v.b, .bool v.c] 23 (0, 0)) ∧ W.heap[c]? = some (.cells #[.bool u.a, .bool u.b, .bool u.c] 23 (0, 0))
theorem Bx.mod {W W' : World} {b c : Nat} {v u : V} {F : Nat → Prop} (h : Bx W b c v u) (hm : Mod F W W') (h1 : ¬ F b) (h2 : ¬ F c) : Bx W' b c v u := ⟨hm.heap h.1 h1, hm.heap h.2 h2⟩
theorem Bx.q {W W' : World} {b c : Nat} {v u : V} (h : Bx W b c v u) (hm : Mod (fun _ => False) W W') : Bx W' b c v u := h.mod hm (fun h => h) (fun h => h)
theorem Bx.drew {W : World} {b c : Nat} {v u : V} (h : Bx W b c v u) : Bx W.drew b c v u := h
theorem Bx.all {W : World} {b c : Nat} {v u : V} (h : Bx W b c v u) : (W.cell? ⟨b, 0, none⟩ = some (.bool v.a) ∧ W.cell? ⟨b, 1, none⟩ = some (.bool v.b) ∧ W.cell? ⟨b, 2, none⟩ = some (.bool v.c)) ∧
    (W.cell? ⟨c, 0, none⟩ = some (.bool u.a) ∧ W.cell? ⟨c, 1, none⟩ = some (.bool u.b) ∧ W.cell? ⟨c, 2, none⟩ = some (.bool u.c)) := ⟨vals h.1, vals h.2⟩
theorem eqInB (a b c a' b' c' : Bool) (w : World) : (Op.equalIn 10000 23 (.agg #[.bool a, .bool b, .bool c]) (.agg #[.bool a', .bool b', .bool c'])).run Try.prog w = .ok ((⟨a, b, c⟩ : V) == ⟨a', b', c'⟩) w := by
  cases a <;> cases b <;> cases c <;> cases a' <;> cases b' <;> cases c' <;> kernel_rfl
theorem pgq {W W' : World} {p : Nat} {n s : V} (h : PG W p n s) (hm : Mod (fun _ => False) W.drew W') : PG W' p n s := hm.heap (show W.drew.heap[p]? = _ from h) (fun h => h)

set_option maxRecDepth 100000 in
set_option maxHeartbeats 4000000 in
theorem go_false_false (v u : V) (w : World) : Calls Try.prog 6 #[vv v, vv u, .bool false, .bool false] w fun e w' => e = .returned (.bool true) ∧ Below w.heap.size w w' := by
  obtain ⟨va, vb, vc⟩ := v
  obtain ⟨ua, ub, uc⟩ := u
  have m0 : Mod (fun _ => False) w ((w.alloc (.cells #[.bool va, .bool vb, .bool vc] 23)).alloc (.cells #[.bool ua, .bool ub, .bool uc] 23)) := ((Mod.refl _ w).alloc _).alloc _
  have B0 : Bx ((w.alloc (.cells #[.bool va, .bool vb, .bool vc] 23)).alloc (.cells #[.bool ua, .bool ub, .bool uc] 23)) w.heap.size (w.heap.size + 1) ⟨va, vb, vc⟩ ⟨ua, ub, uc⟩ := ⟨heap_alloc2_old _ _ _, heap_alloc2_new _ _ _⟩
  generalize hW0 : (w.alloc (.cells #[.bool va, .bool vb, .bool vc] 23)).alloc (.cells #[.bool ua, .bool ub, .bool uc] 23) = W0 at *
  have haw := awake_any W0
  have hs1 := fun p W h => sense_n p (askAll false) ⟨va, vb, vc⟩ ⟨va, vb, vc⟩ W h (.inr (.inr rfl)) 36 rfl (senseL (askAll false) ⟨va, vb, vc⟩ ⟨va, vb, vc⟩) rfl
  have hbk : ∀ x ∈ backL false ⟨va, vb, vc⟩, 0 ≤ x ∧ x ≤ 255 := by
    cases va <;> cases vb <;> cases vc <;> decide +kernel
  have i1 : ∀ w, (binOp .neq 23 (.agg #[.bool va, .bool vb, .bool vc]) (.agg #[.bool va, .bool vb, .bool vc])).run Try.prog w = .ok (.bool false) w := fun w => by rw [neq23]; simp
  have i2 : ∀ w, (Op.equalIn 10000 23 (.agg #[.bool va, .bool vb, .bool vc]) (.agg #[.bool va, .bool vb, .bool vc])).run Try.prog w = .ok true w := fun w => by rw [eqInB]; simp
  have i3 : ∀ w, (binOp .eql 23 (.agg #[.bool va, .bool vb, .bool vc]) (.agg #[.bool va, .bool vb, .bool vc])).run Try.prog w = .ok (.bool true) w := fun w => by rw [eql23]; simp
  have i4 : ∀ w, (Op.equalIn 10000 23 (.agg #[.bool ua, .bool ub, .bool uc]) (.agg #[.bool ua, .bool ub, .bool uc])).run Try.prog w = .ok true w := fun w => by rw [eqInB]; simp
  have i5 : ∀ w, (binOp .eql 23 (.agg #[.bool ua, .bool ub, .bool uc]) (.agg #[.bool ua, .bool ub, .bool uc])).run Try.prog w = .ok (.bool true) w := fun w => by rw [eql23]; simp
  obtain ⟨dv, hdv⟩ : ∃ dv : Bool, dv = ((⟨va, vb, vc⟩ : V) != ⟨ua, ub, uc⟩) := ⟨_, rfl⟩
  have i6 : ∀ w, (binOp .neq 23 (.agg #[.bool va, .bool vb, .bool vc]) (.agg #[.bool ua, .bool ub, .bool uc])).run Try.prog w = .ok (.bool dv) w := fun w => by rw [neq23, hdv]
  have i7 : ∀ w, (Op.equalIn 10000 23 (.agg #[.bool va, .bool vb, .bool vc]) (.agg #[.bool ua, .bool ub, .bool uc])).run Try.prog w = .ok (!dv) w := fun w => by rw [eqInB, hdv]; simp [bne]
  have i8 := guard23
  replace hdv := hide hdv; replace haw := hide haw; replace m0 := hide m0; replace B0 := hide B0; replace hW0 := hide hW0; replace hs1 := hide hs1; replace hbk := hide hbk
  go_enter Try.func6, Try.ntmps6
  go_wp2_with (first
    | (go_at_call 8; rw [hW0.out]; (with_reducible refine haw.out.mono ?_); rintro e w1 ⟨rfl, m1⟩
       have B1 := B0.out.q m1
       obtain ⟨⟨x0, x1, x2⟩, x3, x4, x5⟩ := B1.all
       have M1 := m0.out.trans m1 (by simp)
       have z1 : w.heap.size + 1 < w1.heap.size := (Array.getElem?_eq_some_iff.1 B1.2).1
       replace m1 := hide m1; replace B1 := hide B1; replace M1 := hide M1)
    | (go_at_call 9; (with_reducible refine (new_any ⟨va, vb, vc⟩ w1).mono ?_); rintro e w2 ⟨p, rfl, hp2, m2, o2⟩
       have B2 := B1.out.q m2
       have M2 := M1.out.trans m2 (by simp)
       replace m2 := hide m2; replace B2 := hide B2; replace M2 := hide M2; replace hp2 := hide hp2)
    | (go_at_call 10; (with_reducible refine (hs1.out p w2 hp2.out).mono ?_); rintro e w3 ⟨g3, c3, rfl, r3, m3, o3⟩
       have B3 := (B2.out.q m3).q ((Mod.refl (fun _ => False) w3).alloc (.cells #[.int .u8 0, .int .u16 0, .int .u64 0, .bool false, .int .i64 0, .int .i64 0, .bool false, .bool false] 31))
       have M3 := (M2.out.trans m3 (by simp)).alloc (.cells #[.int .u8 0, .int .u16 0, .int .u64 0, .bool false, .int .i64 0, .int .i64 0, .bool false, .bool false] 31)
       have hp3 := (hp2.out.mod m3 (by simp)).mod ((Mod.refl (fun _ => False) w3).alloc (.cells #[.int .u8 0, .int .u16 0, .int .u64 0, .bool false, .int .i64 0, .int .i64 0, .bool false, .bool false] 31)) (by simp)
       have r3a := r3.alloc (.cells #[.int .u8 0, .int .u16 0, .int .u64 0, .bool false, .int .i64 0, .int .i64 0, .bool false, .bool false] 31)
       replace r3 := hide r3; replace m3 := hide m3; replace B3 := hide B3; replace M3 := hide M3; replace hp3 := hide hp3; replace r3a := hide r3a)
    | (at_builtin; refine list_app (.tmp 40) (.tmp 41) 25 5 _ 1 1 (ic .u8) rfl rfl (ic_len _) (ic_one _) Try.underlying25 elem5 (.slice none 0 0) [] (some ⟨g3, 0, none⟩) 36 c3 (senseL (askAll false) ⟨va, vb, vc⟩ ⟨va, vb, vc⟩) rfl rfl (Row.nil _ _ _ _) (r3a.out.rd (ic_len _) rfl) (by simp [maxLen]) (by simp) ?_
       intro v5 w5 h5 g5 a5
       have n5 := none_mod g5
       obtain ⟨b5, c5, e5, -⟩ := h5.some_ (by show 0 < 36; decide)
       replace e5 : v5 = .slice (some ⟨b5, 0, none⟩) 36 c5 := e5
       have o5 : w3.heap.size + 1 ≤ b5 := own_new a5 e5 (by simp [Value.ownBlock]) (by simp)
       subst e5
       replace h5 : Row w5 5 1 (ic .u8) (.slice (some ⟨b5, 0, none⟩) 36 c5) (senseL (askAll false) ⟨va, vb, vc⟩ ⟨va, vb, vc⟩) := h5
       obtain ⟨q0, q0f⟩ := h5.num 0 (by show 0 < 36; decide)
       obtain ⟨q1, q1f⟩ := h5.num 1 (by show 1 < 36; decide)
       obtain ⟨r5, k5⟩ := h5.store 0 0
       obtain ⟨r6, k6⟩ := r5.store 1 0
       have hpl : p < w3.heap.size := (hp2.out.mod m3.out (by simp)).lt
       have hbl : w.heap.size + 1 < w3.heap.size := by
         have h1 := m3.out.size
         have h2 := (Array.getElem?_eq_some_iff.1 B2.out.2).1
         omega
       have B5 := ((B3.out.q n5).mod k5 (by omega) (by omega)).mod k6 (by omega) (by omega)
       have M5 := ((M3.out.trans n5 (by simp)).trans k5 (fun i hi e => by omega)).trans k6 (fun i hi e => by omega)
       have hp5 := ((hp3.out.mod n5 (by simp)).mod k5 (by omega)).mod k6 (by omega)
       replace r6 : Row _ 5 1 (ic .u8) (.slice (some ⟨b5, 0, none⟩) 36 c5) (backL false ⟨va, vb, vc⟩) := r6
       have hc5b : 36 ≤ c5 ∧ c5 ≤ maxLen := by
         obtain ⟨A9, c9, e9, h91, h92⟩ := r6.slice
         injection e9 with _ _ e9c
         subst e9c
         exact ⟨h91, h92⟩
       have hsel := select_any p (bring false false) (some ⟨b5, 0, none⟩) 36 c5 (backL false ⟨va, vb, vc⟩) ⟨va, vb, vc⟩ ⟨va, vb, vc⟩ _ hp5 hc5b.1 hc5b.2 (r6.rd (ic_len _) rfl) hbk.out
       clear g5 a5 h5 r5
       replace n5 := hide n5; replace k5 := hide k5; replace k6 := hide k6; replace B5 := hide B5; replace M5 := hide M5; replace hp5 := hide hp5; replace r6 := hide r6; replace hsel := hide hsel; replace hc5b := hide hc5b)
    | (go_at_call 11; (with_reducible refine hsel.out.mono ?_); rintro e w6 ⟨ch, ⟨sk, sc, sf, sb, sh, sm⟩, ok, n', s', hR, rfl, hp6, m6⟩
       obtain ⟨rfl, rfl, hch, hs6⟩ := back_sel _ _ _ _ _ _ _ _ _ _ hR
       have hcf : ch = false := by rw [hch]; simp
       clear hch; subst hcf
       have hpb : p ≠ b5 := by omega
       have hop : w.heap.size + 1 < p := by have := o2; omega
       have B6 := B5.out.mod m6 (by omega) (by omega)
       have M6 := M5.out.trans m6 (fun i hi e => by omega)
       have r7 := r6.out.mod m6 (fun k hk e => by have e2 : b5 = k := Option.some.inj hk; omega)
       obtain ⟨y0, y1, y2⟩ := (B6.all).2
       have z6 : w.heap.size + 1 < w6.heap.size := (Array.getElem?_eq_some_iff.1 B6.2).1
       replace hR := hide hR; replace m6 := hide m6; replace B6 := hide B6; replace M6 := hide M6; replace hp6 := hide hp6; replace r7 := hide r7; replace hs6 := hide hs6)
    | (go_at_call 9; (with_reducible refine (new_any ⟨ua, ub, uc⟩ _).mono ?_); rintro e w7 ⟨p2, rfl, hp7, m7, o7⟩
       have a6 := (Mod.refl (fun _ => False) w6).alloc (.cells #[.int .u8 sk, .int .u16 sc, .int .u64 0, .bool false, .int .i64 sf, .int .i64 sb, .bool sh, .bool sm] 31)
       have B7 := (B6.out.q a6).q m7
       have M7 := (M6.out.trans a6 (by simp)).trans m7 (by simp)
       have r8 := (r7.out.mod a6 (by simp)).mod m7 (by simp)
       have hp7b := (hp6.out.mod a6 (by simp)).mod m7 (by simp)
       have hpl7 : p < w6.heap.size := hp6.out.lt
       have o7b : w6.heap.size + 1 ≤ p2 := by simpa using o7
       have hsel2 := select_any p2 (bring false false) (some ⟨b5, 0, none⟩) 36 c5 (backL false ⟨va, vb, vc⟩) ⟨ua, ub, uc⟩ ⟨ua, ub, uc⟩ w7 hp7 hc5b.out.1 hc5b.out.2 (r8.rd (ic_len _) rfl) hbk.out
       replace m7 := hide m7; replace B7 := hide B7; replace M7 := hide M7; replace r8 := hide r8; replace hp7 := hide hp7; replace hp7b := hide hp7b; replace hsel2 := hide hsel2; replace a6 := hide a6)
    | (go_at_call 11; (with_reducible refine hsel2.out.mono ?_); rintro e w8 ⟨ch2, ⟨tk, tc, tf, tb, th, tm⟩, ok2, n2, s2, hR2, rfl, hp8, m8⟩
       obtain ⟨rfl, rfl, hch2, hs8⟩ := back_sel _ _ _ _ _ _ _ _ _ _ hR2
       have e2 : ch2 = dv := by rw [hch2, hdv.out]
       clear hch2; subst e2
       obtain rfl : s2 = ⟨ua, ub, uc⟩ := hs8
       have B8 := B7.out.mod m8 (by omega) (by omega)
       have M8 := M7.out.trans m8 (fun i hi e => by omega)
       have hp8b := hp7b.out.mod m8 (by omega)
       replace hR2 := hide hR2; replace m8 := hide m8; replace B8 := hide B8; replace M8 := hide M8; replace hp8 := hide hp8; replace hp8b := hide hp8b))
  have a8 := (Mod.refl (fun _ => False) w8).alloc (.cells #[.int .u8 tk, .int .u16 tc, .int .u64 0, .bool false, .int .i64 tf, .int .i64 tb, .bool th, .bool tm] 31)
  have B9 := B8.out.q a8
  have hp9 := hp8b.out.mod a8 (by simp)
  have hp9b := hp8.out.mod a8 (by simp)
  have M9 := M8.out.trans a8 (by simp)
  clear a8
  replace B9 := hide B9; replace hp9 := hide hp9; replace hp9b := hide hp9b; replace M9 := hide M9
  go_region_held3 (fun w' => (w'.cell? ⟨w.heap.size, 0, none⟩ = some (.bool va) ∧ w'.cell? ⟨w.heap.size, 1, none⟩ = some (.bool vb) ∧ w'.cell? ⟨w.heap.size, 2, none⟩ = some (.bool vc)) ∧ (w'.cell? ⟨w.heap.size + 1, 0, none⟩ = some (.bool ua) ∧ w'.cell? ⟨w.heap.size + 1, 1, none⟩ = some (.bool ub) ∧ w'.cell? ⟨w.heap.size + 1, 2, none⟩ = some (.bool uc)))
    (first | exact B9.out.all | exact B9.out.drew.all | exact B10.out.all | exact B11.out.all)
    (first
    | (go_at_call 12; (with_reducible refine (now_some p ⟨va, vb, vc⟩ s' _ ?_).mono ?_); (exact hp9.out); rintro e w10 ⟨rfl, m10⟩
       have B10 := Bx.q B9.out.drew m10
       have hp10 := pgq hp9b.out m10
       have M10 := M9.out.drew.trans (Mod.mono (F := fun _ => False) (G := fun _ => False) m10 (fun _ _ h => h)) (fun _ _ h => h)
       replace m10 := hide m10; replace B10 := hide B10; replace hp10 := hide hp10; replace M10 := hide M10)
    | (go_at_call 12; (with_reducible refine (now_some p2 ⟨va, vb, vc⟩ ⟨ua, ub, uc⟩ _ ?_).mono ?_); (exact hp10.out); rintro e w11 ⟨rfl, m11⟩
       have B11 := Bx.q B10.out m11
       have hp11 := PG.mod (F := fun _ => False) hp10.out m11 (fun h => h)
       have M11 := M10.out.trans m11 (fun _ _ h => h)
       replace m11 := hide m11; replace B11 := hide B11; replace hp11 := hide hp11; replace M11 := hide M11))
  all_goals
    go_wp2_with fail
    go_region_held3 (fun w' => (w'.cell? ⟨w.heap.size, 0, none⟩ = some (.bool va) ∧ w'.cell? ⟨w.heap.size, 1, none⟩ = some (.bool vb) ∧ w'.cell? ⟨w.heap.size, 2, none⟩ = some (.bool vc)) ∧ (w'.cell? ⟨w.heap.size + 1, 0, none⟩ = some (.bool ua) ∧ w'.cell? ⟨w.heap.size + 1, 1, none⟩ = some (.bool ub) ∧ w'.cell? ⟨w.heap.size + 1, 2, none⟩ = some (.bool uc)))
      (first | exact B11.out.all | exact B11.out.drew.all | exact B12.out.all)
      (first
      | (go_at_call 13; (with_reducible refine (saved_some p2 ⟨va, vb, vc⟩ ⟨ua, ub, uc⟩ _ ?_).mono ?_); (exact hp11.out); rintro e w12 ⟨rfl, m12⟩
         have B12 := Bx.q B11.out.drew m12
         have M12 := M11.out.drew.trans m12 (fun _ _ h => h)
         replace m12 := hide m12; replace B12 := hide B12; replace M12 := hide M12))
    all_goals
      go_wp2_with fail
      go_ret
      exact ⟨rfl, M12.out.below (Nat.le_refl _) (fun _ h => h.elim)⟩

set_option maxRecDepth 100000 in
set_option maxHeartbeats 4000000 in
theorem go_false_true (v u : V) (w : World) : Calls Try.prog 6 #[vv v, vv u, .bool false, .bool true] w fun e w' => e = .returned (.bool true) ∧ Below w.heap.size w w' := by
  obtain ⟨va, vb, vc⟩ := v
  obtain ⟨ua, ub, uc⟩ := u
  have m0 : Mod (fun _ => False) w ((w.alloc (.cells #[.bool va, .bool vb, .bool vc] 23)).alloc (.cells #[.bool ua, .bool ub, .bool uc] 23)) := ((Mod.refl _ w).alloc _).alloc _
  have B0 : Bx ((w.alloc (.cells #[.bool va, .bool vb, .bool vc] 23)).alloc (.cells #[.bool ua, .bool ub, .bool uc] 23)) w.heap.size (w.heap.size + 1) ⟨va, vb, vc⟩ ⟨ua, ub, uc⟩ := ⟨heap_alloc2_old _ _ _, heap_alloc2_new _ _ _⟩
  generalize hW0 : (w.alloc (.cells #[.bool va, .bool vb, .bool vc] 23)).alloc (.cells #[.bool ua, .bool ub, .bool uc] 23) = W0 at *
  have haw := awake_any W0
  have hs1 := fun p W h => sense_n p (askAll false) ⟨va, vb, vc⟩ ⟨va, vb, vc⟩ W h (.inr (.inr rfl)) 36 rfl (senseL (askAll false) ⟨va, vb, vc⟩ ⟨va, vb, vc⟩) rfl
  have hbk : ∀ x ∈ backL false ⟨va, vb, vc⟩, 0 ≤ x ∧ x ≤ 255 := by
    cases va <;> cases vb <;> cases vc <;> decide +kernel
  have i1 : ∀ w, (binOp .neq 23 (.agg #[.bool va, .bool vb, .bool vc]) (.agg #[.bool va, .bool vb, .bool vc])).run Try.prog w = .ok (.bool false) w := fun w => by rw [neq23]; simp
  have i2 : ∀ w, (Op.equalIn 10000 23 (.agg #[.bool va, .bool vb, .bool vc]) (.agg #[.bool va, .bool vb, .bool vc])).run Try.prog w = .ok true w := fun w => by rw [eqInB]; simp
  have i3 : ∀ w, (binOp .eql 23 (.agg #[.bool va, .bool vb, .bool vc]) (.agg #[.bool va, .bool vb, .bool vc])).run Try.prog w = .ok (.bool true) w := fun w => by rw [eql23]; simp
  have i4 : ∀ w, (Op.equalIn 10000 23 (.agg #[.bool ua, .bool ub, .bool uc]) (.agg #[.bool ua, .bool ub, .bool uc])).run Try.prog w = .ok true w := fun w => by rw [eqInB]; simp
  have i5 : ∀ w, (binOp .eql 23 (.agg #[.bool ua, .bool ub, .bool uc]) (.agg #[.bool ua, .bool ub, .bool uc])).run Try.prog w = .ok (.bool true) w := fun w => by rw [eql23]; simp
  obtain ⟨dv, hdv⟩ : ∃ dv : Bool, dv = ((⟨va, vb, vc⟩ : V) != ⟨ua, ub, uc⟩) := ⟨_, rfl⟩
  have i6 : ∀ w, (binOp .neq 23 (.agg #[.bool va, .bool vb, .bool vc]) (.agg #[.bool ua, .bool ub, .bool uc])).run Try.prog w = .ok (.bool dv) w := fun w => by rw [neq23, hdv]
  have i7 : ∀ w, (Op.equalIn 10000 23 (.agg #[.bool va, .bool vb, .bool vc]) (.agg #[.bool ua, .bool ub, .bool uc])).run Try.prog w = .ok (!dv) w := fun w => by rw [eqInB, hdv]; simp [bne]
  have i8 := guard23
  replace hdv := hide hdv; replace haw := hide haw; replace m0 := hide m0; replace B0 := hide B0; replace hW0 := hide hW0; replace hs1 := hide hs1; replace hbk := hide hbk
  go_enter Try.func6, Try.ntmps6
  go_wp2_with (first
    | (go_at_call 8; rw [hW0.out]; (with_reducible refine haw.out.mono ?_); rintro e w1 ⟨rfl, m1⟩
       have B1 := B0.out.q m1
       obtain ⟨⟨x0, x1, x2⟩, x3, x4, x5⟩ := B1.all
       have M1 := m0.out.trans m1 (by simp)
       have z1 : w.heap.size + 1 < w1.heap.size := (Array.getElem?_eq_some_iff.1 B1.2).1
       replace m1 := hide m1; replace B1 := hide B1; replace M1 := hide M1)
    | (go_at_call 9; (with_reducible refine (new_any ⟨va, vb, vc⟩ w1).mono ?_); rintro e w2 ⟨p, rfl, hp2, m2, o2⟩
       have B2 := B1.out.q m2
       have M2 := M1.out.trans m2 (by simp)
       replace m2 := hide m2; replace B2 := hide B2; replace M2 := hide M2; replace hp2 := hide hp2)
    | (go_at_call 10; (with_reducible refine (hs1.out p w2 hp2.out).mono ?_); rintro e w3 ⟨g3, c3, rfl, r3, m3, o3⟩
       have B3 := (B2.out.q m3).q ((Mod.refl (fun _ => False) w3).alloc (.cells #[.int .u8 0, .int .u16 0, .int .u64 0, .bool false, .int .i64 0, .int .i64 0, .bool false, .bool false] 31))
       have M3 := (M2.out.trans m3 (by simp)).alloc (.cells #[.int .u8 0, .int .u16 0, .int .u64 0, .bool false, .int .i64 0, .int .i64 0, .bool false, .bool false] 31)
       have hp3 := (hp2.out.mod m3 (by simp)).mod ((Mod.refl (fun _ => False) w3).alloc (.cells #[.int .u8 0, .int .u16 0, .int .u64 0, .bool false, .int .i64 0, .int .i64 0, .bool false, .bool false] 31)) (by simp)
       have r3a := r3.alloc (.cells #[.int .u8 0, .int .u16 0, .int .u64 0, .bool false, .int .i64 0, .int .i64 0, .bool false, .bool false] 31)
       replace r3 := hide r3; replace m3 := hide m3; replace B3 := hide B3; replace M3 := hide M3; replace hp3 := hide hp3; replace r3a := hide r3a)
    | (at_builtin; refine list_app (.tmp 40) (.tmp 41) 25 5 _ 1 1 (ic .u8) rfl rfl (ic_len _) (ic_one _) Try.underlying25 elem5 (.slice none 0 0) [] (some ⟨g3, 0, none⟩) 36 c3 (senseL (askAll false) ⟨va, vb, vc⟩ ⟨va, vb, vc⟩) rfl rfl (Row.nil _ _ _ _) (r3a.out.rd (ic_len _) rfl) (by simp [maxLen]) (by simp) ?_
       intro v5 w5 h5 g5 a5
       have n5 := none_mod g5
       obtain ⟨b5, c5, e5, -⟩ := h5.some_ (by show 0 < 36; decide)
       replace e5 : v5 = .slice (some ⟨b5, 0, none⟩) 36 c5 := e5
       have o5 : w3.heap.size + 1 ≤ b5 := own_new a5 e5 (by simp [Value.ownBlock]) (by simp)
       subst e5
       replace h5 : Row w5 5 1 (ic .u8) (.slice (some ⟨b5, 0, none⟩) 36 c5) (senseL (askAll false) ⟨va, vb, vc⟩ ⟨va, vb, vc⟩) := h5
       obtain ⟨q0, q0f⟩ := h5.num 0 (by show 0 < 36; decide)
       obtain ⟨q1, q1f⟩ := h5.num 1 (by show 1 < 36; decide)
       obtain ⟨r5, k5⟩ := h5.store 0 0
       obtain ⟨r6, k6⟩ := r5.store 1 0
       have hpl : p < w3.heap.size := (hp2.out.mod m3.out (by simp)).lt
       have hbl : w.heap.size + 1 < w3.heap.size := by
         have h1 := m3.out.size
         have h2 := (Array.getElem?_eq_some_iff.1 B2.out.2).1
         omega
       have B5 := ((B3.out.q n5).mod k5 (by omega) (by omega)).mod k6 (by omega) (by omega)
       have M5 := ((M3.out.trans n5 (by simp)).trans k5 (fun i hi e => by omega)).trans k6 (fun i hi e => by omega)
       have hp5 := ((hp3.out.mod n5 (by simp)).mod k5 (by omega)).mod k6 (by omega)
       replace r6 : Row _ 5 1 (ic .u8) (.slice (some ⟨b5, 0, none⟩) 36 c5) (backL false ⟨va, vb, vc⟩) := r6
       have hc5b : 36 ≤ c5 ∧ c5 ≤ maxLen := by
         obtain ⟨A9, c9, e9, h91, h92⟩ := r6.slice
         injection e9 with _ _ e9c
         subst e9c
         exact ⟨h91, h92⟩
       have hsel := select_any p (bring false true) (some ⟨b5, 0, none⟩) 36 c5 (backL false ⟨va, vb, vc⟩) ⟨va, vb, vc⟩ ⟨va, vb, vc⟩ _ hp5 hc5b.1 hc5b.2 (r6.rd (ic_len _) rfl) hbk.out
       clear g5 a5 h5 r5
       replace n5 := hide n5; replace k5 := hide k5; replace k6 := hide k6; replace B5 := hide B5; replace M5 := hide M5; replace hp5 := hide hp5; replace r6 := hide r6; replace hsel := hide hsel; replace hc5b := hide hc5b)
    | (go_at_call 11; (with_reducible refine hsel.out.mono ?_); rintro e w6 ⟨ch, ⟨sk, sc, sf, sb, sh, sm⟩, ok, n', s', hR, rfl, hp6, m6⟩
       obtain ⟨rfl, rfl, hch, hs6⟩ := back_sel _ _ _ _ _ _ _ _ _ _ hR
       have hcf : ch = false := by rw [hch]; simp
       clear hch; subst hcf
       have hpb : p ≠ b5 := by omega
       have hop : w.heap.size + 1 < p := by have := o2; omega
       have B6 := B5.out.mod m6 (by omega) (by omega)
       have M6 := M5.out.trans m6 (fun i hi e => by omega)
       have r7 := r6.out.mod m6 (fun k hk e => by have e2 : b5 = k := Option.some.inj hk; omega)
       obtain ⟨y0, y1, y2⟩ := (B6.all).2
       have z6 : w.heap.size + 1 < w6.heap.size := (Array.getElem?_eq_some_iff.1 B6.2).1
       replace hR := hide hR; replace m6 := hide m6; replace B6 := hide B6; replace M6 := hide M6; replace hp6 := hide hp6; replace r7 := hide r7; replace hs6 := hide hs6)
    | (go_at_call 9; (with_reducible refine (new_any ⟨ua, ub, uc⟩ _).mono ?_); rintro e w7 ⟨p2, rfl, hp7, m7, o7⟩
       have a6 := (Mod.refl (fun _ => False) w6).alloc (.cells #[.int .u8 sk, .int .u16 sc, .int .u64 0, .bool false, .int .i64 sf, .int .i64 sb, .bool sh, .bool sm] 31)
       have B7 := (B6.out.q a6).q m7
       have M7 := (M6.out.trans a6 (by simp)).trans m7 (by simp)
       have r8 := (r7.out.mod a6 (by simp)).mod m7 (by simp)
       have hp7b := (hp6.out.mod a6 (by simp)).mod m7 (by simp)
       have hpl7 : p < w6.heap.size := hp6.out.lt
       have o7b : w6.heap.size + 1 ≤ p2 := by simpa using o7
       have hsel2 := select_any p2 (bring false true) (some ⟨b5, 0, none⟩) 36 c5 (backL false ⟨va, vb, vc⟩) ⟨ua, ub, uc⟩ ⟨ua, ub, uc⟩ w7 hp7 hc5b.out.1 hc5b.out.2 (r8.rd (ic_len _) rfl) hbk.out
       replace m7 := hide m7; replace B7 := hide B7; replace M7 := hide M7; replace r8 := hide r8; replace hp7 := hide hp7; replace hp7b := hide hp7b; replace hsel2 := hide hsel2; replace a6 := hide a6)
    | (go_at_call 11; (with_reducible refine hsel2.out.mono ?_); rintro e w8 ⟨ch2, ⟨tk, tc, tf, tb, th, tm⟩, ok2, n2, s2, hR2, rfl, hp8, m8⟩
       obtain ⟨rfl, rfl, hch2, hs8⟩ := back_sel _ _ _ _ _ _ _ _ _ _ hR2
       have e2 : ch2 = dv := by rw [hch2, hdv.out]
       clear hch2; subst e2
       obtain rfl : s2 = ⟨va, vb, vc⟩ := hs8
       have B8 := B7.out.mod m8 (by omega) (by omega)
       have M8 := M7.out.trans m8 (fun i hi e => by omega)
       have hp8b := hp7b.out.mod m8 (by omega)
       replace hR2 := hide hR2; replace m8 := hide m8; replace B8 := hide B8; replace M8 := hide M8; replace hp8 := hide hp8; replace hp8b := hide hp8b))
  have a8 := (Mod.refl (fun _ => False) w8).alloc (.cells #[.int .u8 tk, .int .u16 tc, .int .u64 0, .bool false, .int .i64 tf, .int .i64 tb, .bool th, .bool tm] 31)
  have B9 := B8.out.q a8
  have hp9 := hp8b.out.mod a8 (by simp)
  have hp9b := hp8.out.mod a8 (by simp)
  have M9 := M8.out.trans a8 (by simp)
  clear a8
  replace B9 := hide B9; replace hp9 := hide hp9; replace hp9b := hide hp9b; replace M9 := hide M9
  go_region_held3 (fun w' => (w'.cell? ⟨w.heap.size, 0, none⟩ = some (.bool va) ∧ w'.cell? ⟨w.heap.size, 1, none⟩ = some (.bool vb) ∧ w'.cell? ⟨w.heap.size, 2, none⟩ = some (.bool vc)) ∧ (w'.cell? ⟨w.heap.size + 1, 0, none⟩ = some (.bool ua) ∧ w'.cell? ⟨w.heap.size + 1, 1, none⟩ = some (.bool ub) ∧ w'.cell? ⟨w.heap.size + 1, 2, none⟩ = some (.bool uc)))
    (first | exact B9.out.all | exact B9.out.drew.all | exact B10.out.all | exact B11.out.all)
    (first
    | (go_at_call 12; (with_reducible refine (now_some p ⟨va, vb, vc⟩ s' _ ?_).mono ?_); (exact hp9.out); rintro e w10 ⟨rfl, m10⟩
       have B10 := Bx.q B9.out.drew m10
       have hp10 := pgq hp9b.out m10
       have M10 := M9.out.drew.trans (Mod.mono (F := fun _ => False) (G := fun _ => False) m10 (fun _ _ h => h)) (fun _ _ h => h)
       replace m10 := hide m10; replace B10 := hide B10; replace hp10 := hide hp10; replace M10 := hide M10)
    | (go_at_call 12; (with_reducible refine (now_some p2 ⟨va, vb, vc⟩ ⟨va, vb, vc⟩ _ ?_).mono ?_); (exact hp10.out); rintro e w11 ⟨rfl, m11⟩
       have B11 := Bx.q B10.out m11
       have hp11 := PG.mod (F := fun _ => False) hp10.out m11 (fun h => h)
       have M11 := M10.out.trans m11 (fun _ _ h => h)
       replace m11 := hide m11; replace B11 := hide B11; replace hp11 := hide hp11; replace M11 := hide M11))
  all_goals
    go_wp2_with fail
    go_region_held3 (fun w' => (w'.cell? ⟨w.heap.size, 0, none⟩ = some (.bool va) ∧ w'.cell? ⟨w.heap.size, 1, none⟩ = some (.bool vb) ∧ w'.cell? ⟨w.heap.size, 2, none⟩ = some (.bool vc)) ∧ (w'.cell? ⟨w.heap.size + 1, 0, none⟩ = some (.bool ua) ∧ w'.cell? ⟨w.heap.size + 1, 1, none⟩ = some (.bool ub) ∧ w'.cell? ⟨w.heap.size + 1, 2, none⟩ = some (.bool uc)))
      (first | exact B11.out.all | exact B11.out.drew.all | exact B12.out.all)
      (first
      | (go_at_call 13; (with_reducible refine (saved_some p2 ⟨va, vb, vc⟩ ⟨va, vb, vc⟩ _ ?_).mono ?_); (exact hp11.out); rintro e w12 ⟨rfl, m12⟩
         have B12 := Bx.q B11.out.drew m12
         have M12 := M11.out.drew.trans m12 (fun _ _ h => h)
         replace m12 := hide m12; replace B12 := hide B12; replace M12 := hide M12))
    all_goals
      go_wp2_with fail
      go_ret
      exact ⟨rfl, M12.out.below (Nat.le_refl _) (fun _ h => h.elim)⟩

set_option maxRecDepth 100000 in
set_option maxHeartbeats 4000000 in
theorem go_true_false (v u : V) (w : World) : Calls Try.prog 6 #[vv v, vv u, .bool true, .bool false] w fun e w' => e = .returned (.bool true) ∧ Below w.heap.size w w' := by
  obtain ⟨va, vb, vc⟩ := v
  obtain ⟨ua, ub, uc⟩ := u
  have m0 : Mod (fun _ => False) w ((w.alloc (.cells #[.bool va, .bool vb, .bool vc] 23)).alloc (.cells #[.bool ua, .bool ub, .bool uc] 23)) := ((Mod.refl _ w).alloc _).alloc _
  have B0 : Bx ((w.alloc (.cells #[.bool va, .bool vb, .bool vc] 23)).alloc (.cells #[.bool ua, .bool ub, .bool uc] 23)) w.heap.size (w.heap.size + 1) ⟨va, vb, vc⟩ ⟨ua, ub, uc⟩ := ⟨heap_alloc2_old _ _ _, heap_alloc2_new _ _ _⟩
  generalize hW0 : (w.alloc (.cells #[.bool va, .bool vb, .bool vc] 23)).alloc (.cells #[.bool ua, .bool ub, .bool uc] 23) = W0 at *
  have haw := awake_any W0
  have hs1 := fun p W h => sense_n p (askAll true) ⟨va, vb, vc⟩ ⟨va, vb, vc⟩ W h (.inr (.inr rfl)) 40 rfl (senseL (askAll true) ⟨va, vb, vc⟩ ⟨va, vb, vc⟩) rfl
  have hbk : ∀ x ∈ backL true ⟨va, vb, vc⟩, 0 ≤ x ∧ x ≤ 255 := by
    cases va <;> cases vb <;> cases vc <;> decide +kernel
  have i1 : ∀ w, (binOp .neq 23 (.agg #[.bool va, .bool vb, .bool vc]) (.agg #[.bool va, .bool vb, .bool vc])).run Try.prog w = .ok (.bool false) w := fun w => by rw [neq23]; simp
  have i2 : ∀ w, (Op.equalIn 10000 23 (.agg #[.bool va, .bool vb, .bool vc]) (.agg #[.bool va, .bool vb, .bool vc])).run Try.prog w = .ok true w := fun w => by rw [eqInB]; simp
  have i3 : ∀ w, (binOp .eql 23 (.agg #[.bool va, .bool vb, .bool vc]) (.agg #[.bool va, .bool vb, .bool vc])).run Try.prog w = .ok (.bool true) w := fun w => by rw [eql23]; simp
  have i4 : ∀ w, (Op.equalIn 10000 23 (.agg #[.bool ua, .bool ub, .bool uc]) (.agg #[.bool ua, .bool ub, .bool uc])).run Try.prog w = .ok true w := fun w => by rw [eqInB]; simp
  have i5 : ∀ w, (binOp .eql 23 (.agg #[.bool ua, .bool ub, .bool uc]) (.agg #[.bool ua, .bool ub, .bool uc])).run Try.prog w = .ok (.bool true) w := fun w => by rw [eql23]; simp
  obtain ⟨dv, hdv⟩ : ∃ dv : Bool, dv = ((⟨va, vb, vc⟩ : V) != ⟨ua, ub, uc⟩) := ⟨_, rfl⟩
  have i6 : ∀ w, (binOp .neq 23 (.agg #[.bool va, .bool vb, .bool vc]) (.agg #[.bool ua, .bool ub, .bool uc])).run Try.prog w = .ok (.bool dv) w := fun w => by rw [neq23, hdv]
  have i7 : ∀ w, (Op.equalIn 10000 23 (.agg #[.bool va, .bool vb, .bool vc]) (.agg #[.bool ua, .bool ub, .bool uc])).run Try.prog w = .ok (!dv) w := fun w => by rw [eqInB, hdv]; simp [bne]
  have i8 := guard23
  replace hdv := hide hdv; replace haw := hide haw; replace m0 := hide m0; replace B0 := hide B0; replace hW0 := hide hW0; replace hs1 := hide hs1; replace hbk := hide hbk
  go_enter Try.func6, Try.ntmps6
  go_wp2_with (first
    | (go_at_call 8; rw [hW0.out]; (with_reducible refine haw.out.mono ?_); rintro e w1 ⟨rfl, m1⟩
       have B1 := B0.out.q m1
       obtain ⟨⟨x0, x1, x2⟩, x3, x4, x5⟩ := B1.all
       have M1 := m0.out.trans m1 (by simp)
       have z1 : w.heap.size + 1 < w1.heap.size := (Array.getElem?_eq_some_iff.1 B1.2).1
       replace m1 := hide m1; replace B1 := hide B1; replace M1 := hide M1)
    | (go_at_call 9; (with_reducible refine (new_any ⟨va, vb, vc⟩ w1).mono ?_); rintro e w2 ⟨p, rfl, hp2, m2, o2⟩
       have B2 := B1.out.q m2
       have M2 := M1.out.trans m2 (by simp)
       replace m2 := hide m2; replace B2 := hide B2; replace M2 := hide M2; replace hp2 := hide hp2)
    | (go_at_call 10; (with_reducible refine (hs1.out p w2 hp2.out).mono ?_); rintro e w3 ⟨g3, c3, rfl, r3, m3, o3⟩
       have B3 := (B2.out.q m3).q ((Mod.refl (fun _ => False) w3).alloc (.cells #[.int .u8 0, .int .u16 0, .int .u64 0, .bool false, .int .i64 0, .int .i64 0, .bool false, .bool false] 31))
       have M3 := (M2.out.trans m3 (by simp)).alloc (.cells #[.int .u8 0, .int .u16 0, .int .u64 0, .bool false, .int .i64 0, .int .i64 0, .bool false, .bool false] 31)
       have hp3 := (hp2.out.mod m3 (by simp)).mod ((Mod.refl (fun _ => False) w3).alloc (.cells #[.int .u8 0, .int .u16 0, .int .u64 0, .bool false, .int .i64 0, .int .i64 0, .bool false, .bool false] 31)) (by simp)
       have r3a := r3.alloc (.cells #[.int .u8 0, .int .u16 0, .int .u64 0, .bool false, .int .i64 0, .int .i64 0, .bool false, .bool false] 31)
       replace r3 := hide r3; replace m3 := hide m3; replace B3 := hide B3; replace M3 := hide M3; replace hp3 := hide hp3; replace r3a := hide r3a)
    | (at_builtin; refine list_app (.tmp 40) (.tmp 41) 25 5 _ 1 1 (ic .u8) rfl rfl (ic_len _) (ic_one _) Try.underlying25 elem5 (.slice none 0 0) [] (some ⟨g3, 0, none⟩) 40 c3 (senseL (askAll true) ⟨va, vb, vc⟩ ⟨va, vb, vc⟩) rfl rfl (Row.nil _ _ _ _) (r3a.out.rd (ic_len _) rfl) (by simp [maxLen]) (by simp) ?_
       intro v5 w5 h5 g5 a5
       have n5 := none_mod g5
       obtain ⟨b5, c5, e5, -⟩ := h5.some_ (by show 0 < 40; decide)
       replace e5 : v5 = .slice (some ⟨b5, 0, none⟩) 40 c5 := e5
       have o5 : w3.heap.size + 1 ≤ b5 := own_new a5 e5 (by simp [Value.ownBlock]) (by simp)
       subst e5
       replace h5 : Row w5 5 1 (ic .u8) (.slice (some ⟨b5, 0, none⟩) 40 c5) (senseL (askAll true) ⟨va, vb, vc⟩ ⟨va, vb, vc⟩) := h5
       obtain ⟨q0, q0f⟩ := h5.num 0 (by show 0 < 40; decide)
       obtain ⟨q1, q1f⟩ := h5.num 1 (by show 1 < 40; decide)
       obtain ⟨r5, k5⟩ := h5.store 0 0
       obtain ⟨r6, k6⟩ := r5.store 1 0
       have hpl : p < w3.heap.size := (hp2.out.mod m3.out (by simp)).lt
       have hbl : w.heap.size + 1 < w3.heap.size := by
         have h1 := m3.out.size
         have h2 := (Array.getElem?_eq_some_iff.1 B2.out.2).1
         omega
       have B5 := ((B3.out.q n5).mod k5 (by omega) (by omega)).mod k6 (by omega) (by omega)
       have M5 := ((M3.out.trans n5 (by simp)).trans k5 (fun i hi e => by omega)).trans k6 (fun i hi e => by omega)
       have hp5 := ((hp3.out.mod n5 (by simp)).mod k5 (by omega)).mod k6 (by omega)
       replace r6 : Row _ 5 1 (ic .u8) (.slice (some ⟨b5, 0, none⟩) 40 c5) (backL true ⟨va, vb, vc⟩) := r6
       have hc5b : 40 ≤ c5 ∧ c5 ≤ maxLen := by
         obtain ⟨A9, c9, e9, h91, h92⟩ := r6.slice
         injection e9 with _ _ e9c
         subst e9c
         exact ⟨h91, h92⟩
       have hsel := select_any p (bring true false) (some ⟨b5, 0, none⟩) 40 c5 (backL true ⟨va, vb, vc⟩) ⟨va, vb, vc⟩ ⟨va, vb, vc⟩ _ hp5 hc5b.1 hc5b.2 (r6.rd (ic_len _) rfl) hbk.out
       clear g5 a5 h5 r5
       replace n5 := hide n5; replace k5 := hide k5; replace k6 := hide k6; replace B5 := hide B5; replace M5 := hide M5; replace hp5 := hide hp5; replace r6 := hide r6; replace hsel := hide hsel; replace hc5b := hide hc5b)
    | (go_at_call 11; (with_reducible refine hsel.out.mono ?_); rintro e w6 ⟨ch, ⟨sk, sc, sf, sb, sh, sm⟩, ok, n', s', hR, rfl, hp6, m6⟩
       obtain ⟨rfl, rfl, hch, hs6⟩ := back_sel _ _ _ _ _ _ _ _ _ _ hR
       have hcf : ch = false := by rw [hch]; simp
       clear hch; subst hcf
       have hpb : p ≠ b5 := by omega
       have hop : w.heap.size + 1 < p := by have := o2; omega
       have B6 := B5.out.mod m6 (by omega) (by omega)
       have M6 := M5.out.trans m6 (fun i hi e => by omega)
       have r7 := r6.out.mod m6 (fun k hk e => by have e2 : b5 = k := Option.some.inj hk; omega)
       obtain ⟨y0, y1, y2⟩ := (B6.all).2
       have z6 : w.heap.size + 1 < w6.heap.size := (Array.getElem?_eq_some_iff.1 B6.2).1
       replace hR := hide hR; replace m6 := hide m6; replace B6 := hide B6; replace M6 := hide M6; replace hp6 := hide hp6; replace r7 := hide r7; replace hs6 := hide hs6)
    | (go_at_call 9; (with_reducible refine (new_any ⟨ua, ub, uc⟩ _).mono ?_); rintro e w7 ⟨p2, rfl, hp7, m7, o7⟩
       have a6 := (Mod.refl (fun _ => False) w6).alloc (.cells #[.int .u8 sk, .int .u16 sc, .int .u64 0, .bool false, .int .i64 sf, .int .i64 sb, .bool sh, .bool sm] 31)
       have B7 := (B6.out.q a6).q m7
       have M7 := (M6.out.trans a6 (by simp)).trans m7 (by simp)
       have r8 := (r7.out.mod a6 (by simp)).mod m7 (by simp)
       have hp7b := (hp6.out.mod a6 (by simp)).mod m7 (by simp)
       have hpl7 : p < w6.heap.size := hp6.out.lt
       have o7b : w6.heap.size + 1 ≤ p2 := by simpa using o7
       have hsel2 := select_any p2 (bring true false) (some ⟨b5, 0, none⟩) 40 c5 (backL true ⟨va, vb, vc⟩) ⟨ua, ub, uc⟩ ⟨ua, ub, uc⟩ w7 hp7 hc5b.out.1 hc5b.out.2 (r8.rd (ic_len _) rfl) hbk.out
       replace m7 := hide m7; replace B7 := hide B7; replace M7 := hide M7; replace r8 := hide r8; replace hp7 := hide hp7; replace hp7b := hide hp7b; replace hsel2 := hide hsel2; replace a6 := hide a6)
    | (go_at_call 11; (with_reducible refine hsel2.out.mono ?_); rintro e w8 ⟨ch2, ⟨tk, tc, tf, tb, th, tm⟩, ok2, n2, s2, hR2, rfl, hp8, m8⟩
       obtain ⟨rfl, rfl, hch2, hs8⟩ := back_sel _ _ _ _ _ _ _ _ _ _ hR2
       have e2 : ch2 = dv := by rw [hch2, hdv.out]
       clear hch2; subst e2
       obtain rfl : s2 = ⟨ua, ub, uc⟩ := hs8
       have B8 := B7.out.mod m8 (by omega) (by omega)
       have M8 := M7.out.trans m8 (fun i hi e => by omega)
       have hp8b := hp7b.out.mod m8 (by omega)
       replace hR2 := hide hR2; replace m8 := hide m8; replace B8 := hide B8; replace M8 := hide M8; replace hp8 := hide hp8; replace hp8b := hide hp8b))
  have a8 := (Mod.refl (fun _ => False) w8).alloc (.cells #[.int .u8 tk, .int .u16 tc, .int .u64 0, .bool false, .int .i64 tf, .int .i64 tb, .bool th, .bool tm] 31)
  have B9 := B8.out.q a8
  have hp9 := hp8b.out.mod a8 (by simp)
  have hp9b := hp8.out.mod a8 (by simp)
  have M9 := M8.out.trans a8 (by simp)
  clear a8
  replace B9 := hide B9; replace hp9 := hide hp9; replace hp9b := hide hp9b; replace M9 := hide M9
  go_region_held3 (fun w' => (w'.cell? ⟨w.heap.size, 0, none⟩ = some (.bool va) ∧ w'.cell? ⟨w.heap.size, 1, none⟩ = some (.bool vb) ∧ w'.cell? ⟨w.heap.size, 2, none⟩ = some (.bool vc)) ∧ (w'.cell? ⟨w.heap.size + 1, 0, none⟩ = some (.bool ua) ∧ w'.cell? ⟨w.heap.size + 1, 1, none⟩ = some (.bool ub) ∧ w'.cell? ⟨w.heap.size + 1, 2, none⟩ = some (.bool uc)))
    (first | exact B9.out.all | exact B9.out.drew.all | exact B10.out.all | exact B11.out.all)
    (first
    | (go_at_call 12; (with_reducible refine (now_some p ⟨va, vb, vc⟩ s' _ ?_).mono ?_); (exact hp9.out); rintro e w10 ⟨rfl, m10⟩
       have B10 := Bx.q B9.out.drew m10
       have hp10 := pgq hp9b.out m10
       have M10 := M9.out.drew.trans (Mod.mono (F := fun _ => False) (G := fun _ => False) m10 (fun _ _ h => h)) (fun _ _ h => h)
       replace m10 := hide m10; replace B10 := hide B10; replace hp10 := hide hp10; replace M10 := hide M10)
    | (go_at_call 12; (with_reducible refine (now_some p2 ⟨va, vb, vc⟩ ⟨ua, ub, uc⟩ _ ?_).mono ?_); (exact hp10.out); rintro e w11 ⟨rfl, m11⟩
       have B11 := Bx.q B10.out m11
       have hp11 := PG.mod (F := fun _ => False) hp10.out m11 (fun h => h)
       have M11 := M10.out.trans m11 (fun _ _ h => h)
       replace m11 := hide m11; replace B11 := hide B11; replace hp11 := hide hp11; replace M11 := hide M11))
  all_goals
    go_wp2_with fail
    go_region_held3 (fun w' => (w'.cell? ⟨w.heap.size, 0, none⟩ = some (.bool va) ∧ w'.cell? ⟨w.heap.size, 1, none⟩ = some (.bool vb) ∧ w'.cell? ⟨w.heap.size, 2, none⟩ = some (.bool vc)) ∧ (w'.cell? ⟨w.heap.size + 1, 0, none⟩ = some (.bool ua) ∧ w'.cell? ⟨w.heap.size + 1, 1, none⟩ = some (.bool ub) ∧ w'.cell? ⟨w.heap.size + 1, 2, none⟩ = some (.bool uc)))
      (first | exact B11.out.all | exact B11.out.drew.all | exact B12.out.all)
      (first
      | (go_at_call 13; (with_reducible refine (saved_some p2 ⟨va, vb, vc⟩ ⟨ua, ub, uc⟩ _ ?_).mono ?_); (exact hp11.out); rintro e w12 ⟨rfl, m12⟩
         have B12 := Bx.q B11.out.drew m12
         have M12 := M11.out.drew.trans m12 (fun _ _ h => h)
         replace m12 := hide m12; replace B12 := hide B12; replace M12 := hide M12))
    all_goals
      go_wp2_with fail
      go_ret
      exact ⟨rfl, M12.out.below (Nat.le_refl _) (fun _ h => h.elim)⟩

set_option maxRecDepth 100000 in
set_option maxHeartbeats 4000000 in
theorem go_true_true (v u : V) (w : World) : Calls Try.prog 6 #[vv v, vv u, .bool true, .bool true] w fun e w' => e = .returned (.bool true) ∧ Below w.heap.size w w' := by
  obtain ⟨va, vb, vc⟩ := v
  obtain ⟨ua, ub, uc⟩ := u
  have m0 : Mod (fun _ => False) w ((w.alloc (.cells #[.bool va, .bool vb, .bool vc] 23)).alloc (.cells #[.bool ua, .bool ub, .bool uc] 23)) := ((Mod.refl _ w).alloc _).alloc _
  have B0 : Bx ((w.alloc (.cells #[.bool va, .bool vb, .bool vc] 23)).alloc (.cells #[.bool ua, .bool ub, .bool uc] 23)) w.heap.size (w.heap.size + 1) ⟨va, vb, vc⟩ ⟨ua, ub, uc⟩ := ⟨heap_alloc2_old _ _ _, heap_alloc2_new _ _ _⟩
  generalize hW0 : (w.alloc (.cells #[.bool va, .bool vb, .bool vc] 23)).alloc (.cells #[.bool ua, .bool ub, .bool uc] 23) = W0 at *
  have haw := awake_any W0
  have hs1 := fun p W h => sense_n p (askAll true) ⟨va, vb, vc⟩ ⟨va, vb, vc⟩ W h (.inr (.inr rfl)) 40 rfl (senseL (askAll true) ⟨va, vb, vc⟩ ⟨va, vb, vc⟩) rfl
  have hbk : ∀ x ∈ backL true ⟨va, vb, vc⟩, 0 ≤ x ∧ x ≤ 255 := by
    cases va <;> cases vb <;> cases vc <;> decide +kernel
  have i1 : ∀ w, (binOp .neq 23 (.agg #[.bool va, .bool vb, .bool vc]) (.agg #[.bool va, .bool vb, .bool vc])).run Try.prog w = .ok (.bool false) w := fun w => by rw [neq23]; simp
  have i2 : ∀ w, (Op.equalIn 10000 23 (.agg #[.bool va, .bool vb, .bool vc]) (.agg #[.bool va, .bool vb, .bool vc])).run Try.prog w = .ok true w := fun w => by rw [eqInB]; simp
  have i3 : ∀ w, (binOp .eql 23 (.agg #[.bool va, .bool vb, .bool vc]) (.agg #[.bool va, .bool vb, .bool vc])).run Try.prog w = .ok (.bool true) w := fun w => by rw [eql23]; simp
  have i4 : ∀ w, (Op.equalIn 10000 23 (.agg #[.bool ua, .bool ub, .bool uc]) (.agg #[.bool ua, .bool ub, .bool uc])).run Try.prog w = .ok true w := fun w => by rw [eqInB]; simp
  have i5 : ∀ w, (binOp .eql 23 (.agg #[.bool ua, .bool ub, .bool uc]) (.agg #[.bool ua, .bool ub, .bool uc])).run Try.prog w = .ok (.bool true) w := fun w => by rw [eql23]; simp
  obtain ⟨dv, hdv⟩ : ∃ dv : Bool, dv = ((⟨va, vb, vc⟩ : V) != ⟨ua, ub, uc⟩) := ⟨_, rfl⟩
  have i6 : ∀ w, (binOp .neq 23 (.agg #[.bool va, .bool vb, .bool vc]) (.agg #[.bool ua, .bool ub, .bool uc])).run Try.prog w = .ok (.bool dv) w := fun w => by rw [neq23, hdv]
  have i7 : ∀ w, (Op.equalIn 10000 23 (.agg #[.bool va, .bool vb, .bool vc]) (.agg #[.bool ua, .bool ub, .bool uc])).run Try.prog w = .ok (!dv) w := fun w => by rw [eqInB, hdv]; simp [bne]
  have i8 := guard23
  replace hdv := hide hdv; replace haw := hide haw; replace m0 := hide m0; replace B0 := hide B0; replace hW0 := hide hW0; replace hs1 := hide hs1; replace hbk := hide hbk
  go_enter Try.func6, Try.ntmps6
  go_wp2_with (first
    | (go_at_call 8; rw [hW0.out]; (with_reducible refine haw.out.mono ?_); rintro e w1 ⟨rfl, m1⟩
       have B1 := B0.out.q m1
       obtain ⟨⟨x0, x1, x2⟩, x3, x4, x5⟩ := B1.all
       have M1 := m0.out.trans m1 (by simp)
       have z1 : w.heap.size + 1 < w1.heap.size := (Array.getElem?_eq_some_iff.1 B1.2).1
       replace m1 := hide m1; replace B1 := hide B1; replace M1 := hide M1)
    | (go_at_call 9; (with_reducible refine (new_any ⟨va, vb, vc⟩ w1).mono ?_); rintro e w2 ⟨p, rfl, hp2, m2, o2⟩
       have B2 := B1.out.q m2
       have M2 := M1.out.trans m2 (by simp)
       replace m2 := hide m2; replace B2 := hide B2; replace M2 := hide M2; replace hp2 := hide hp2)
    | (go_at_call 10; (with_reducible refine (hs1.out p w2 hp2.out).mono ?_); rintro e w3 ⟨g3, c3, rfl, r3, m3, o3⟩
       have B3 := (B2.out.q m3).q ((Mod.refl (fun _ => False) w3).alloc (.cells #[.int .u8 0, .int .u16 0, .int .u64 0, .bool false, .int .i64 0, .int .i64 0, .bool false, .bool false] 31))
       have M3 := (M2.out.trans m3 (by simp)).alloc (.cells #[.int .u8 0, .int .u16 0, .int .u64 0, .bool false, .int .i64 0, .int .i64 0, .bool false, .bool false] 31)
       have hp3 := (hp2.out.mod m3 (by simp)).mod ((Mod.refl (fun _ => False) w3).alloc (.cells #[.int .u8 0, .int .u16 0, .int .u64 0, .bool false, .int .i64 0, .int .i64 0, .bool false, .bool false] 31)) (by simp)
       have r3a := r3.alloc (.cells #[.int .u8 0, .int .u16 0, .int .u64 0, .bool false, .int .i64 0, .int .i64 0, .bool false, .bool false] 31)
       replace r3 := hide r3; replace m3 := hide m3; replace B3 := hide B3; replace M3 := hide M3; replace hp3 := hide hp3; replace r3a := hide r3a)
    | (at_builtin; refine list_app (.tmp 40) (.tmp 41) 25 5 _ 1 1 (ic .u8) rfl rfl (ic_len _) (ic_one _) Try.underlying25 elem5 (.slice none 0 0) [] (some ⟨g3, 0, none⟩) 40 c3 (senseL (askAll true) ⟨va, vb, vc⟩ ⟨va, vb, vc⟩) rfl rfl (Row.nil _ _ _ _) (r3a.out.rd (ic_len _) rfl) (by simp [maxLen]) (by simp) ?_
       intro v5 w5 h5 g5 a5
       have n5 := none_mod g5
       obtain ⟨b5, c5, e5, -⟩ := h5.some_ (by show 0 < 40; decide)
       replace e5 : v5 = .slice (some ⟨b5, 0, none⟩) 40 c5 := e5
       have o5 : w3.heap.size + 1 ≤ b5 := own_new a5 e5 (by simp [Value.ownBlock]) (by simp)
       subst e5
       replace h5 : Row w5 5 1 (ic .u8) (.slice (some ⟨b5, 0, none⟩) 40 c5) (senseL (askAll true) ⟨va, vb, vc⟩ ⟨va, vb, vc⟩) := h5
       obtain ⟨q0, q0f⟩ := h5.num 0 (by show 0 < 40; decide)
       obtain ⟨q1, q1f⟩ := h5.num 1 (by show 1 < 40; decide)
       obtain ⟨r5, k5⟩ := h5.store 0 0
       obtain ⟨r6, k6⟩ := r5.store 1 0
       have hpl : p < w3.heap.size := (hp2.out.mod m3.out (by simp)).lt
       have hbl : w.heap.size + 1 < w3.heap.size := by
         have h1 := m3.out.size
         have h2 := (Array.getElem?_eq_some_iff.1 B2.out.2).1
         omega
       have B5 := ((B3.out.q n5).mod k5 (by omega) (by omega)).mod k6 (by omega) (by omega)
       have M5 := ((M3.out.trans n5 (by simp)).trans k5 (fun i hi e => by omega)).trans k6 (fun i hi e => by omega)
       have hp5 := ((hp3.out.mod n5 (by simp)).mod k5 (by omega)).mod k6 (by omega)
       replace r6 : Row _ 5 1 (ic .u8) (.slice (some ⟨b5, 0, none⟩) 40 c5) (backL true ⟨va, vb, vc⟩) := r6
       have hc5b : 40 ≤ c5 ∧ c5 ≤ maxLen := by
         obtain ⟨A9, c9, e9, h91, h92⟩ := r6.slice
         injection e9 with _ _ e9c
         subst e9c
         exact ⟨h91, h92⟩
       have hsel := select_any p (bring true true) (some ⟨b5, 0, none⟩) 40 c5 (backL true ⟨va, vb, vc⟩) ⟨va, vb, vc⟩ ⟨va, vb, vc⟩ _ hp5 hc5b.1 hc5b.2 (r6.rd (ic_len _) rfl) hbk.out
       clear g5 a5 h5 r5
       replace n5 := hide n5; replace k5 := hide k5; replace k6 := hide k6; replace B5 := hide B5; replace M5 := hide M5; replace hp5 := hide hp5; replace r6 := hide r6; replace hsel := hide hsel; replace hc5b := hide hc5b)
    | (go_at_call 11; (with_reducible refine hsel.out.mono ?_); rintro e w6 ⟨ch, ⟨sk, sc, sf, sb, sh, sm⟩, ok, n', s', hR, rfl, hp6, m6⟩
       obtain ⟨rfl, rfl, hch, hs6⟩ := back_sel _ _ _ _ _ _ _ _ _ _ hR
       have hcf : ch = false := by rw [hch]; simp
       clear hch; subst hcf
       have hpb : p ≠ b5 := by omega
       have hop : w.heap.size + 1 < p := by have := o2; omega
       have B6 := B5.out.mod m6 (by omega) (by omega)
       have M6 := M5.out.trans m6 (fun i hi e => by omega)
       have r7 := r6.out.mod m6 (fun k hk e => by have e2 : b5 = k := Option.some.inj hk; omega)
       obtain ⟨y0, y1, y2⟩ := (B6.all).2
       have z6 : w.heap.size + 1 < w6.heap.size := (Array.getElem?_eq_some_iff.1 B6.2).1
       replace hR := hide hR; replace m6 := hide m6; replace B6 := hide B6; replace M6 := hide M6; replace hp6 := hide hp6; replace r7 := hide r7; replace hs6 := hide hs6)
    | (go_at_call 9; (with_reducible refine (new_any ⟨ua, ub, uc⟩ _).mono ?_); rintro e w7 ⟨p2, rfl, hp7, m7, o7⟩
       have a6 := (Mod.refl (fun _ => False) w6).alloc (.cells #[.int .u8 sk, .int .u16 sc, .int .u64 0, .bool false, .int .i64 sf, .int .i64 sb, .bool sh, .bool sm] 31)
       have B7 := (B6.out.q a6).q m7
       have M7 := (M6.out.trans a6 (by simp)).trans m7 (by simp)
       have r8 := (r7.out.mod a6 (by simp)).mod m7 (by simp)
       have hp7b := (hp6.out.mod a6 (by simp)).mod m7 (by simp)
       have hpl7 : p < w6.heap.size := hp6.out.lt
       have o7b : w6.heap.size + 1 ≤ p2 := by simpa using o7
       have hsel2 := select_any p2 (bring true true) (some ⟨b5, 0, none⟩) 40 c5 (backL true ⟨va, vb, vc⟩) ⟨ua, ub, uc⟩ ⟨ua, ub, uc⟩ w7 hp7 hc5b.out.1 hc5b.out.2 (r8.rd (ic_len _) rfl) hbk.out
       replace m7 := hide m7; replace B7 := hide B7; replace M7 := hide M7; replace r8 := hide r8; replace hp7 := hide hp7; replace hp7b := hide hp7b; replace hsel2 := hide hsel2; replace a6 := hide a6)
    | (go_at_call 11; (with_reducible refine hsel2.out.mono ?_); rintro e w8 ⟨ch2, ⟨tk, tc, tf, tb, th, tm⟩, ok2, n2, s2, hR2, rfl, hp8, m8⟩
       obtain ⟨rfl, rfl, hch2, hs8⟩ := back_sel _ _ _ _ _ _ _ _ _ _ hR2
       have e2 : ch2 = dv := by rw [hch2, hdv.out]
       clear hch2; subst e2
       obtain rfl : s2 = ⟨va, vb, vc⟩ := hs8
       have B8 := B7.out.mod m8 (by omega) (by omega)
       have M8 := M7.out.trans m8 (fun i hi e => by omega)
       have hp8b := hp7b.out.mod m8 (by omega)
       replace hR2 := hide hR2; replace m8 := hide m8; replace B8 := hide B8; replace M8 := hide M8; replace hp8 := hide hp8; replace hp8b := hide hp8b))
  have a8 := (Mod.refl (fun _ => False) w8).alloc (.cells #[.int .u8 tk, .int .u16 tc, .int .u64 0, .bool false, .int .i64 tf, .int .i64 tb, .bool th, .bool tm] 31)
  have B9 := B8.out.q a8
  have hp9 := hp8b.out.mod a8 (by simp)
  have hp9b := hp8.out.mod a8 (by simp)
  have M9 := M8.out.trans a8 (by simp)
  clear a8
  replace B9 := hide B9; replace hp9 := hide hp9; replace hp9b := hide hp9b; replace M9 := hide M9
  go_region_held3 (fun w' => (w'.cell? ⟨w.heap.size, 0, none⟩ = some (.bool va) ∧ w'.cell? ⟨w.heap.size, 1, none⟩ = some (.bool vb) ∧ w'.cell? ⟨w.heap.size, 2, none⟩ = some (.bool vc)) ∧ (w'.cell? ⟨w.heap.size + 1, 0, none⟩ = some (.bool ua) ∧ w'.cell? ⟨w.heap.size + 1, 1, none⟩ = some (.bool ub) ∧ w'.cell? ⟨w.heap.size + 1, 2, none⟩ = some (.bool uc)))
    (first | exact B9.out.all | exact B9.out.drew.all | exact B10.out.all | exact B11.out.all)
    (first
    | (go_at_call 12; (with_reducible refine (now_some p ⟨va, vb, vc⟩ s' _ ?_).mono ?_); (exact hp9.out); rintro e w10 ⟨rfl, m10⟩
       have B10 := Bx.q B9.out.drew m10
       have hp10 := pgq hp9b.out m10
       have M10 := M9.out.drew.trans (Mod.mono (F := fun _ => False) (G := fun _ => False) m10 (fun _ _ h => h)) (fun _ _ h => h)
       replace m10 := hide m10; replace B10 := hide B10; replace hp10 := hide hp10; replace M10 := hide M10)
    | (go_at_call 12; (with_reducible refine (now_some p2 ⟨va, vb, vc⟩ ⟨va, vb, vc⟩ _ ?_).mono ?_); (exact hp10.out); rintro e w11 ⟨rfl, m11⟩
       have B11 := Bx.q B10.out m11
       have hp11 := PG.mod (F := fun _ => False) hp10.out m11 (fun h => h)
       have M11 := M10.out.trans m11 (fun _ _ h => h)
       replace m11 := hide m11; replace B11 := hide B11; replace hp11 := hide hp11; replace M11 := hide M11))
  all_goals
    go_wp2_with fail
    go_region_held3 (fun w' => (w'.cell? ⟨w.heap.size, 0, none⟩ = some (.bool va) ∧ w'.cell? ⟨w.heap.size, 1, none⟩ = some (.bool vb) ∧ w'.cell? ⟨w.heap.size, 2, none⟩ = some (.bool vc)) ∧ (w'.cell? ⟨w.heap.size + 1, 0, none⟩ = some (.bool ua) ∧ w'.cell? ⟨w.heap.size + 1, 1, none⟩ = some (.bool ub) ∧ w'.cell? ⟨w.heap.size + 1, 2, none⟩ = some (.bool uc)))
      (first | exact B11.out.all | exact B11.out.drew.all | exact B12.out.all)
      (first
      | (go_at_call 13; (with_reducible refine (saved_some p2 ⟨va, vb, vc⟩ ⟨va, vb, vc⟩ _ ?_).mono ?_); (exact hp11.out); rintro e w12 ⟨rfl, m12⟩
         have B12 := Bx.q B11.out.drew m12
         have M12 := M11.out.drew.trans m12 (fun _ _ h => h)
         replace m12 := hide m12; replace B12 := hide B12; replace M12 := hide M12))
    all_goals
      go_wp2_with fail
      go_ret
      exact ⟨rfl, M12.out.below (Nat.le_refl _) (fun _ h => h.elim)⟩

theorem walk0 (v u : V) (long save : Bool) (w : World) : Calls Try.prog 6 #[vv v, vv u, .bool long, .bool save] w fun e w' => e = .returned (.bool true) ∧ Below w.heap.size w w' := by
  cases long <;> cases save
  · exact go_false_false v u w
  · exact go_false_true v u w
  · exact go_true_false v u w
  · exact go_true_true v u w
end Go.Proofs.Ytieieinaijopnaa.modeBack
