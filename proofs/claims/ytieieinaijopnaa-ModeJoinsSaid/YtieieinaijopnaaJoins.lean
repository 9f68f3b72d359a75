/-
  The walk of ModeJoins. No condition.
-/
import Derived.Test.YtieieinaijopnaaTells
import Derived.Test.YtieieinaijopnaaSel
import Derived.Test.YtieieinaijopnaaTwo
namespace Go.Proofs.Ytieieinaijopnaa.modeJoins
open Go.ChangeShapes Go.WideShapes Go.ChangeAt Go.RowKit Go.Deep
open Go.Proofs.Ytieieinaijopnaa.modeTells (sense_n)
set_option linter.unusedVariables false
set_option linter.unusedSimpArgs false
/-- The command that asks for a page. -/
abbrev askP (page : Int) : C := ⟨0, false, 0, 0, 0, false, 0, false, false, page, 0, false, 0, 0, false⟩
/-- The command that brings. -/
abbrev bring0 : C := ⟨0, false, 0, 0, 0, false, 0, false, false, 0, 0, false, 0, 0, false⟩
/-- The page that is brought first, and the other. -/
def pX (first : Bool) (u : V) : List Int := if first then ctlL u else cachL u
def pY (first : Bool) (u : V) : List Int := if first then cachL u else ctlL u
def fX (first : Bool) (u x : V) : V := if first then ⟨x.a, u.b, u.c⟩ else ⟨u.a, x.b, x.c⟩
def fY (first : Bool) (u x : V) : V := if first then ⟨u.a, x.b, x.c⟩ else ⟨x.a, u.b, u.c⟩
def head4 : List Int := [0, 0, 0, 0]
theorem fXY (first : Bool) (u x : V) : fY first u (fX first u x) = u := by cases first <;> rfl
theorem joins_both (first : Bool) (u v n s n' s' : V) (ch ok : Bool) (sn : SN) (h : SelR (head4 ++ pX first u ++ pY first u) false false n s ch sn ok n' s') : ok = true ∧ n' = u ∧ ch = (u != n) := by
  have hh : HeadOk (head4 ++ pX first u ++ pY first u) false := by
    intro j h1 h2
    have : j = 0 ∨ j = 1 ∨ j = 3 := by simp [hdN, devN] at h1 h2; omega
    cases first <;> rcases this with rfl | rfl | rfl <;> rfl
  cases first
  · obtain ⟨q1, q2, q3, q4⟩ := sel_two (n1 := 20) (n2 := 12) (f := fX false u) (g := fY false u) rfl (by decide) (by decide) hh
      (fun a b c d e hp => cach_det (u := u) ⟨ctlL u, rfl⟩ hp) (fun a b c d e hp => ctl_det (u := u) ⟨[], by simp; rfl⟩ hp) h
    rw [fXY] at q2
    exact ⟨q1, q2, by rw [q3, q2]⟩
  · obtain ⟨q1, q2, q3, q4⟩ := sel_two (n1 := 12) (n2 := 20) (f := fX true u) (g := fY true u) rfl (by decide) (by decide) hh
      (fun a b c d e hp => ctl_det (u := u) ⟨cachL u, rfl⟩ hp) (fun a b c d e hp => cach_det (u := u) ⟨[], by simp; rfl⟩ hp) h
    rw [fXY] at q2
    exact ⟨q1, q2, by rw [q3, q2]⟩
theorem joins_x (first : Bool) (u n s n' s' : V) (ch ok : Bool) (sn : SN) (h : SelR (head4 ++ pX first u) false false n s ch sn ok n' s') : ok = true ∧ n' = fX first u n ∧ ch = (fX first u n != n) := by
  have hh : HeadOk (head4 ++ pX first u) false := by
    intro j h1 h2
    have : j = 0 ∨ j = 1 ∨ j = 3 := by simp [hdN, devN] at h1 h2; omega
    cases first <;> rcases this with rfl | rfl | rfl <;> rfl
  cases first
  · obtain ⟨q1, q2, q3, q4⟩ := sel_one (n1 := 20) (f := fX false u) rfl (by decide) hh (fun a b c d e hp => cach_det (u := u) ⟨[], by simp; rfl⟩ hp) h
    exact ⟨q1, q2, by rw [q3, q2]⟩
  · obtain ⟨q1, q2, q3, q4⟩ := sel_one (n1 := 12) (f := fX true u) rfl (by decide) hh (fun a b c d e hp => ctl_det (u := u) ⟨[], by simp; rfl⟩ hp) h
    exact ⟨q1, q2, by rw [q3, q2]⟩
theorem joins_y (first : Bool) (u n s n' s' : V) (ch ok : Bool) (sn : SN) (h : SelR (head4 ++ pY first u) false false n s ch sn ok n' s') : ok = true ∧ n' = fY first u n ∧ ch = (fY first u n != n) := by
  have hh : HeadOk (head4 ++ pY first u) false := by
    intro j h1 h2
    have : j = 0 ∨ j = 1 ∨ j = 3 := by simp [hdN, devN] at h1 h2; omega
    cases first <;> rcases this with rfl | rfl | rfl <;> rfl
  cases first
  · obtain ⟨q1, q2, q3, q4⟩ := sel_one (n1 := 12) (f := fY false u) rfl (by decide) hh (fun a b c d e hp => ctl_det (u := u) ⟨[], by simp; rfl⟩ hp) h
    exact ⟨q1, q2, by rw [q3, q2]⟩
  · obtain ⟨q1, q2, q3, q4⟩ := sel_one (n1 := 20) (f := fY true u) rfl (by decide) hh (fun a b c d e hp => cach_det (u := u) ⟨[], by simp; rfl⟩ hp) h
    exact ⟨q1, q2, by rw [q3, q2]⟩
/-- What the three selects say of change. -/
theorem changes (first : Bool) (v u : V) : ((fX first u v != v) || (fY first u (fX first u v) != fX first u v)) = (v != u) := by
  obtain ⟨a, b, c⟩ := v
  obtain ⟨d, e, f⟩ := u
  cases first <;> cases a <;> cases b <;> cases c <;> cases d <;> cases e <;> cases f <;> rfl
theorem changes1 (v u : V) : (u != v) = (v != u) := by
  obtain ⟨a, b, c⟩ := v
  obtain ⟨d, e, f⟩ := u
  cases a <;> cases b <;> cases c <;> cases d <;> cases e <;> cases f <;> rfl
/-- The two boxes. -/
def Bx (W : World) (b c : Nat) (v u : V) : Prop := W.heap[b]? = some (.cells #[.bool v.a, .bool v.b, .bool v.c] 23 (0, 0)) ∧ W.heap[c]? = some (.cells #[.bool u.a, .bool u.b, .bool u.c] 23 (0, 0))
theorem Bx.mod {W W' : World} {b c : Nat} {v u : V} {F : Nat → Prop} (h : Bx W b c v u) (hm : Mod F W W') (h1 : ¬ F b) (h2 : ¬ F c) : Bx W' b c v u := ⟨hm.heap h.1 h1, hm.heap h.2 h2⟩
theorem Bx.q {W W' : World} {b c : Nat} {v u : V} (h : Bx W b c v u) (hm : Mod (fun _ => False) W W') : Bx W' b c v u := h.mod hm (fun h => h) (fun h => h)
theorem Bx.drew {W : World} {b c : Nat} {v u : V} (h : Bx W b c v u) : Bx W.drew b c v u := h
theorem Bx.all {W : World} {b c : Nat} {v u : V} (h : Bx W b c v u) : (W.cell? ⟨b, 0, none⟩ = some (.bool v.a) ∧ W.cell? ⟨b, 1, none⟩ = some (.bool v.b) ∧ W.cell? ⟨b, 2, none⟩ = some (.bool v.c)) ∧
    (W.cell? ⟨c, 0, none⟩ = some (.bool u.a) ∧ W.cell? ⟨c, 1, none⟩ = some (.bool u.b) ∧ W.cell? ⟨c, 2, none⟩ = some (.bool u.c)) := ⟨vals h.1, vals h.2⟩
theorem eqInB (a b c a' b' c' : Bool) (w : World) : (Op.equalIn 10000 23 (.agg #[.bool a, .bool b, .bool c]) (.agg #[.bool a', .bool b', .bool c'])).run Try.prog w = .ok ((⟨a, b, c⟩ : V) == ⟨a', b', c'⟩) w := by
  cases a <;> cases b <;> cases c <;> cases a' <;> cases b' <;> cases c' <;> kernel_rfl
theorem pgq {W W' : World} {p : Nat} {n s : V} (h : PG W p n s) (hm : Mod (fun _ => False) W.drew W') : PG W' p n s := hm.heap (show W.drew.heap[p]? = _ from h) (fun h => h)
/-- Four bytes of nothing, in a block of their own. -/
theorem row4 (w : World) (g : Nat) (hg : g = w.heap.size) : Row (w.alloc (.cells #[.int .u8 0, .int .u8 0, .int .u8 0, .int .u8 0] 5)) 5 1 (ic .u8) (.slice (some ⟨g, 0, none⟩) 4 4) head4 := by
  subst hg
  exact World.ownsRow_lit (base := 0) (size := 1) w #[.int .u8 0, .int .u8 0, .int .u8 0, .int .u8 0] 4 (by omega) (by decide) rfl
theorem rd4 {w : World} {A : Option Addr} {n : Nat} {L X : List Int} (h : Rd w 1 (ic .u8) A n L) (hn : 4 ≤ n) (hX : L.drop 4 = X) {ad : Addr} (hA : A = some ad) : Rd w 1 (ic .u8) (some (ad.add 4)) (n - 4) X := by
  subst hX; subst hA
  exact h.drop 4 hn

/-- What is known while ModeJoins runs: the boxes, what is brought, and that nothing older has changed. -/
def Env (w W : World) (L : Nat) (first : Bool) (v u : V) (ax ay : Addr) : Prop := Bx W w.heap.size (w.heap.size + 1) v u ∧ Rd W 1 (ic .u8) (some ax) (pX first u).length (pX first u) ∧ Rd W 1 (ic .u8) (some ay) (pY first u).length (pY first u) ∧
  Mod (fun _ => False) w W ∧ w.heap.size + 1 < L ∧ ax.block < L ∧ ay.block < L ∧ L ≤ W.heap.size
theorem Env.mod {w W W' : World} {L : Nat} {first : Bool} {v u : V} {ax ay : Addr} {F : Nat → Prop} (h : Env w W L first v u ax ay) (hm : Mod F W W') (hF : ∀ k, F k → L ≤ k) : Env w W' L first v u ax ay := by
  obtain ⟨h1, h2, h3, h4, h5, h6, h7, h8⟩ := h
  refine ⟨h1.mod hm (fun h => ?_) (fun h => ?_), h2.mod hm (fun ad e h => ?_), h3.mod hm (fun ad e h => ?_), h4.trans hm (fun i hi h => ?_), h5, h6, h7, ?_⟩
  · have := hF _ h; omega
  · have := hF _ h; omega
  · have := hF _ h; have e2 : ax = ad := Option.some.inj e; subst e2; omega
  · have := hF _ h; have e2 : ay = ad := Option.some.inj e; subst e2; omega
  · have := hF _ h; omega
  · have := hm.size; omega
theorem Env.q {w W W' : World} {L : Nat} {first : Bool} {v u : V} {ax ay : Addr} (h : Env w W L first v u ax ay) (hm : Mod (fun _ => False) W W') : Env w W' L first v u ax ay := h.mod hm (fun _ h => h.elim)
theorem Env.alloc {w W : World} {L : Nat} {first : Bool} {v u : V} {ax ay : Addr} (h : Env w W L first v u ax ay) (o : Obj) : Env w (W.alloc o) L first v u ax ay := h.q ((Mod.refl _ W).alloc o)
theorem Env.drew {w W : World} {L : Nat} {first : Bool} {v u : V} {ax ay : Addr} (h : Env w W L first v u ax ay) : Env w W.drew L first v u ax ay := h.q ((Mod.refl _ W).drew)
theorem Env.all {w W : World} {L : Nat} {first : Bool} {v u : V} {ax ay : Addr} (h : Env w W L first v u ax ay) : (W.cell? ⟨w.heap.size, 0, none⟩ = some (.bool v.a) ∧ W.cell? ⟨w.heap.size, 1, none⟩ = some (.bool v.b) ∧ W.cell? ⟨w.heap.size, 2, none⟩ = some (.bool v.c)) ∧
    (W.cell? ⟨w.heap.size + 1, 0, none⟩ = some (.bool u.a) ∧ W.cell? ⟨w.heap.size + 1, 1, none⟩ = some (.bool u.b) ∧ W.cell? ⟨w.heap.size + 1, 2, none⟩ = some (.bool u.c)) := h.1.all
theorem Env.size {w W : World} {L : Nat} {first : Bool} {v u : V} {ax ay : Addr} (h : Env w W L first v u ax ay) : L ≤ W.heap.size ∧ w.heap.size + 1 < W.heap.size := by
  obtain ⟨h1, h2, h3, h4, h5, h6, h7, h8⟩ := h
  omega
theorem own_mod {v : Value} {w w' : World} {g n c : Nat} (hg : w.grownBy w' v.ownBlock) (hv : v = .slice (some ⟨g, 0, none⟩) n c) : Mod (fun k => k = g) w w' :=
  (grown_mod hg).mono fun k _ e => by subst hv; exact (Option.some.inj e).symm
theorem cap_of {w : World} {b n c : Nat} {l : List Int} (h : Row w 5 1 (ic .u8) (.slice (some ⟨b, 0, none⟩) n c) l) : n ≤ c ∧ c ≤ maxLen := by
  obtain ⟨A9, c9, e9, h91, h92⟩ := h.slice
  injection e9 with _ e9n e9c
  subst e9c; subst e9n
  exact ⟨h91, h92⟩

set_option maxRecDepth 100000 in
set_option maxHeartbeats 4000000 in
theorem go_false (v u : V) (w : World) : Calls Try.prog 7 #[vv v, vv u, .bool false] w fun e w' => e = .returned (.bool true) ∧ Below w.heap.size w w' := by
  obtain ⟨va, vb, vc⟩ := v
  obtain ⟨ua, ub, uc⟩ := u
  have m0 : Mod (fun _ => False) w ((w.alloc (.cells #[.bool va, .bool vb, .bool vc] 23)).alloc (.cells #[.bool ua, .bool ub, .bool uc] 23)) := ((Mod.refl _ w).alloc _).alloc _
  have B0 : Bx ((w.alloc (.cells #[.bool va, .bool vb, .bool vc] 23)).alloc (.cells #[.bool ua, .bool ub, .bool uc] 23)) w.heap.size (w.heap.size + 1) ⟨va, vb, vc⟩ ⟨ua, ub, uc⟩ := ⟨heap_alloc2_old _ _ _, heap_alloc2_new _ _ _⟩
  generalize hW0 : (w.alloc (.cells #[.bool va, .bool vb, .bool vc] 23)).alloc (.cells #[.bool ua, .bool ub, .bool uc] 23) = W0 at *
  have haw := awake_any W0
  have hs1 := fun p W h => sense_n p (askP 8) ⟨ua, ub, uc⟩ ⟨ua, ub, uc⟩ W h (.inl rfl) 24 rfl (senseL (askP 8) ⟨ua, ub, uc⟩ ⟨ua, ub, uc⟩) rfl
  have hs2 := fun p W h => sense_n p (askP 10) ⟨ua, ub, uc⟩ ⟨ua, ub, uc⟩ W h (.inr (.inl rfl)) 16 rfl (senseL (askP 10) ⟨ua, ub, uc⟩ ⟨ua, ub, uc⟩) rfl
  have hbb : ∀ x ∈ head4 ++ pX false ⟨ua, ub, uc⟩ ++ pY false ⟨ua, ub, uc⟩, 0 ≤ x ∧ x ≤ 255 := by
    cases ua <;> cases ub <;> cases uc <;> decide +kernel
  have hbx : ∀ x ∈ head4 ++ pX false ⟨ua, ub, uc⟩, 0 ≤ x ∧ x ≤ 255 := fun x hx => hbb x (List.mem_append_left _ hx)
  have hby : ∀ x ∈ head4 ++ pY false ⟨ua, ub, uc⟩, 0 ≤ x ∧ x ≤ 255 := fun x hx => hbb x (by rcases List.mem_append.1 hx with h | h <;> simp [h])
  have i2 : ∀ w, (Op.equalIn 10000 23 (.agg #[.bool ua, .bool ub, .bool uc]) (.agg #[.bool ua, .bool ub, .bool uc])).run Try.prog w = .ok true w := fun w => by rw [eqInB]; simp
  have i3 : ∀ w, (binOp .eql 23 (.agg #[.bool ua, .bool ub, .bool uc]) (.agg #[.bool ua, .bool ub, .bool uc])).run Try.prog w = .ok (.bool true) w := fun w => by rw [eql23]; simp
  obtain ⟨dv, hdv⟩ : ∃ dv : Bool, dv = ((⟨va, vb, vc⟩ : V) != ⟨ua, ub, uc⟩) := ⟨_, rfl⟩
  have i6 : ∀ w, (binOp .neq 23 (.agg #[.bool va, .bool vb, .bool vc]) (.agg #[.bool ua, .bool ub, .bool uc])).run Try.prog w = .ok (.bool dv) w := fun w => by rw [neq23, hdv]
  have i7 : ∀ w, (Op.equalIn 10000 23 (.agg #[.bool va, .bool vb, .bool vc]) (.agg #[.bool ua, .bool ub, .bool uc])).run Try.prog w = .ok (!dv) w := fun w => by rw [eqInB, hdv]; simp [bne]
  have i8 := guard23
  replace hdv := hide hdv; replace haw := hide haw; replace m0 := hide m0; replace B0 := hide B0; replace hW0 := hide hW0; replace hs1 := hide hs1; replace hs2 := hide hs2; replace hbb := hide hbb; replace hbx := hide hbx; replace hby := hide hby
  go_enter Try.func7, Try.ntmps7
  go_wp2_with (first
    | (go_at_call 8; rw [hW0.out]; (with_reducible refine haw.out.mono ?_); rintro e w1 ⟨rfl, m1⟩
       have B1 := B0.out.q m1
       obtain ⟨⟨x0, x1, x2⟩, x3, x4, x5⟩ := B1.all
       have M1 := m0.out.trans m1 (by simp)
       have z1 : w.heap.size + 1 < w1.heap.size := (Array.getElem?_eq_some_iff.1 B1.2).1
       replace m1 := hide m1; replace B1 := hide B1; replace M1 := hide M1)
    | (go_at_call 9; (with_reducible refine (new_any ⟨ua, ub, uc⟩ w1).mono ?_); rintro e w2 ⟨p, rfl, hp2, m2, o2⟩
       have B2 := B1.out.q m2
       have M2 := M1.out.trans m2 (by simp)
       replace m2 := hide m2; replace B2 := hide B2; replace M2 := hide M2; replace hp2 := hide hp2)
    | (go_at_call 10; (with_reducible refine (hs1.out p w2 hp2.out).mono ?_); rintro e w3 ⟨g3, c3, rfl, r3, m3, o3⟩
       have B3 := (B2.out.q m3).q ((Mod.refl (fun _ => False) w3).alloc (.cells #[.int .u8 0, .int .u16 0, .int .u64 0, .bool false, .int .i64 0, .int .i64 0, .bool false, .bool false] 31))
       have M3 := (M2.out.trans m3 (by simp)).alloc (.cells #[.int .u8 0, .int .u16 0, .int .u64 0, .bool false, .int .i64 0, .int .i64 0, .bool false, .bool false] 31)
       have hp3 := (hp2.out.mod m3 (by simp)).mod ((Mod.refl (fun _ => False) w3).alloc (.cells #[.int .u8 0, .int .u16 0, .int .u64 0, .bool false, .int .i64 0, .int .i64 0, .bool false, .bool false] 31)) (by simp)
       have r3a := r3.alloc (.cells #[.int .u8 0, .int .u16 0, .int .u64 0, .bool false, .int .i64 0, .int .i64 0, .bool false, .bool false] 31)
       replace r3 := hide r3; replace m3 := hide m3; replace B3 := hide B3; replace M3 := hide M3; replace hp3 := hide hp3; replace r3a := hide r3a)
    | (go_at_call 10; (with_reducible refine (hs2.out p _ hp3.out).mono ?_); rintro e w4 ⟨g4, c4, rfl, r4, m4, o4⟩
       have a4 := (Mod.refl (fun _ => False) w4).alloc (.cells #[.int .u8 0, .int .u16 0, .int .u64 0, .bool false, .int .i64 0, .int .i64 0, .bool false, .bool false] 31)
       have B4 := (B3.out.q m4).q a4
       have M4 := (M3.out.trans m4 (by simp)).trans a4 (by simp)
       have r3b := (r3a.out.mod m4 (by simp)).mod a4 (by simp)
       have r4b := r4.mod a4 (by simp)
       have hc3 : 24 ≤ c3 ∧ c3 ≤ maxLen := by
         obtain ⟨A9, c9, e9, h91, h92⟩ := r3b.slice
         injection e9 with _ _ e9c
         subst e9c
         exact ⟨h91, h92⟩
       have hc4 : 16 ≤ c4 ∧ c4 ≤ maxLen := by
         obtain ⟨A9, c9, e9, h91, h92⟩ := r4b.slice
         injection e9 with _ _ e9c
         subst e9c
         exact ⟨h91, h92⟩
       have zc3 := hc3.1
       have zc4 := hc4.1
       have zm3 : c3 ≤ 9223372036854775807 := hc3.2
       have zm4 : c4 ≤ 9223372036854775807 := hc4.2
       have E4 : Env w (w4.alloc (.cells #[.int .u8 0, .int .u16 0, .int .u64 0, .bool false, .int .i64 0, .int .i64 0, .bool false, .bool false] 31)) (w4.heap.size + 1) false ⟨va, vb, vc⟩ ⟨ua, ub, uc⟩ ⟨g3, 4, none⟩ ⟨g4, 4, none⟩ := by
         have h3 : g3 < (w4.alloc (.cells #[.int .u8 0, .int .u16 0, .int .u64 0, .bool false, .int .i64 0, .int .i64 0, .bool false, .bool false] 31)).heap.size := r3b.lt _ rfl
         have h4 : g4 < (w4.alloc (.cells #[.int .u8 0, .int .u16 0, .int .u64 0, .bool false, .int .i64 0, .int .i64 0, .bool false, .bool false] 31)).heap.size := r4b.lt _ rfl
         have hsz : (w4.alloc (.cells #[.int .u8 0, .int .u16 0, .int .u64 0, .bool false, .int .i64 0, .int .i64 0, .bool false, .bool false] 31)).heap.size = w4.heap.size + 1 := by simp
         have hb := (Array.getElem?_eq_some_iff.1 B4.2).1
         have hb2 := (Array.getElem?_eq_some_iff.1 (B3.out.q m4).2).1
         exact ⟨B4, rd4 (r3b.rd (ic_len _) rfl) (by decide) rfl rfl, rd4 (r4b.rd (ic_len _) rfl) (by decide) rfl rfl, M4, by omega, by show g3 < _; omega, by show g4 < _; omega, by omega⟩
       have E5 := E4.alloc (.cells #[.int .u8 0, .int .u8 0, .int .u8 0, .int .u8 0] 5)
       have q5 := (row4 (w4.alloc (.cells #[.int .u8 0, .int .u16 0, .int .u64 0, .bool false, .int .i64 0, .int .i64 0, .bool false, .bool false] 31)) (w4.heap.size + 1) (by simp)).rd (ic_len _) rfl
       obtain ⟨LB, hLB⟩ : ∃ LB, LB = w4.heap.size + 1 := ⟨_, rfl⟩
       rw [← hLB] at E5
       clear a4 r4 m4 B4 M4 E4 r3b r4b
       replace hLB := hide hLB; replace E5 := hide E5; replace q5 := hide q5)
    | (at_builtin; refine list_app (.tmp 73) (.tmp 74) 25 5 _ 1 1 (ic .u8) rfl rfl (ic_len _) (ic_one _) Try.underlying25 elem5 (.slice none 0 0) [] _ 4 4 head4 rfl rfl (Row.nil _ _ _ _) q5.out (by simp [maxLen]) (by simp) ?_
       intro v6 w6 h6 k6 a6
       have n6 := none_mod k6
       obtain ⟨b6, c6, e6, -⟩ := h6.some_ (by simp [head4])
       have E6 := E5.out.q n6
       have o6 : LB ≤ b6 := own_new a6 e6 (by simp [Value.ownBlock]) E5.out.size.1
       replace e6 : v6 = .slice (some ⟨b6, 0, none⟩) 4 c6 := e6
       subst e6
       clear k6 a6 n6
       replace h6 : Row w6 5 1 (ic .u8) (.slice (some ⟨b6, 0, none⟩) 4 c6) head4 := h6
       replace h6 := hide h6; replace E6 := hide E6)
    | (at_builtin; refine list_app (.tmp 76) (.tmp 77) 25 5 _ 1 1 (ic .u8) rfl rfl (ic_len _) (ic_one _) Try.underlying25 elem5 (.slice (some ⟨b6, 0, none⟩) 4 c6) head4 (some ⟨g3, 4, none⟩) 20 (c3 - 4) (pX false ⟨ua, ub, uc⟩) rfl rfl h6.out E6.out.2.1 (by simp [maxLen, head4]) (by simp [head4]) ?_
       intro v7 w7 h7 k7 a7
       have n7 := own_mod k7 rfl
       obtain ⟨b7, c7, e7, -⟩ := h7.some_ (by simp [head4])
       have E7 := E6.out.mod n7 (fun k e => by omega)
       have o7 : LB ≤ b7 := own_new a7 e7 (fun k e => by have e2 : b6 = k := Option.some.inj e; omega) E6.out.size.1
       replace e7 : v7 = .slice (some ⟨b7, 0, none⟩) 24 c7 := e7
       subst e7
       clear k7 a7 n7
       replace h7 : Row w7 5 1 (ic .u8) (.slice (some ⟨b7, 0, none⟩) 24 c7) (head4 ++ pX false ⟨ua, ub, uc⟩) := h7
       replace h7 := hide h7; replace E7 := hide E7)
    | (at_builtin; refine list_app (.tmp 79) (.tmp 80) 25 5 _ 1 1 (ic .u8) rfl rfl (ic_len _) (ic_one _) Try.underlying25 elem5 (.slice (some ⟨b7, 0, none⟩) 24 c7) (head4 ++ pX false ⟨ua, ub, uc⟩) (some ⟨g4, 4, none⟩) 12 (c4 - 4) (pY false ⟨ua, ub, uc⟩) rfl rfl h7.out E7.out.2.2.1 (by simp [maxLen, head4, pX, cachL, ctlL]) (by simp [head4, pX, cachL, ctlL]) ?_
       intro v8 w8 h8 k8 a8
       have n8 := own_mod k8 rfl
       obtain ⟨b8, c8, e8, -⟩ := h8.some_ (by simp [head4])
       have E8 := E7.out.mod n8 (fun k e => by omega)
       have o8 : LB ≤ b8 := own_new a8 e8 (fun k e => by have e2 : b7 = k := Option.some.inj e; omega) E7.out.size.1
       replace e8 : v8 = .slice (some ⟨b8, 0, none⟩) 36 c8 := e8
       subst e8
       clear k8 a8 n8
       replace h8 : Row w8 5 1 (ic .u8) (.slice (some ⟨b8, 0, none⟩) 36 c8) (head4 ++ pX false ⟨ua, ub, uc⟩ ++ pY false ⟨ua, ub, uc⟩) := h8
       obtain ⟨⟨x0, x1, x2⟩, x3, x4, x5⟩ := E8.all
       have hc8 := cap_of h8
       have z8 := E8.size.2
       have z8b := E8.size.1
       replace h8 := hide h8; replace E8 := hide E8; replace hc8 := hide hc8)
    | (go_at_call 9; (with_reducible refine (new_any ⟨va, vb, vc⟩ w8).mono ?_); rintro e w9 ⟨p9, rfl, hp9, m9, o9⟩
       have E9 := E8.out.q m9
       have b9 : b8 < w8.heap.size := h8.out.lt _ rfl
       have hsel9 := select_any p9 bring0 (some ⟨b8, 0, none⟩) 36 c8 (head4 ++ pX false ⟨ua, ub, uc⟩ ++ pY false ⟨ua, ub, uc⟩) ⟨va, vb, vc⟩ ⟨va, vb, vc⟩ w9 hp9 hc8.out.1 hc8.out.2 ((h8.out.mod m9 (by simp)).rd (ic_len _) rfl) hbb.out
       clear hp9
       replace m9 := hide m9; replace E9 := hide E9; replace hsel9 := hide hsel9)
    | (go_at_call 11; (with_reducible refine hsel9.out.mono ?_); rintro e w10 ⟨ch1, ⟨sk, sc, sf, sb, sh, sm⟩, ok1, n10, s10, hR10, rfl, hp10, m10⟩
       obtain ⟨rfl, rfl, hch1⟩ := joins_both _ _ ⟨va, vb, vc⟩ _ _ _ _ _ _ _ hR10
       have e10 : ch1 = dv := by rw [hch1, hdv.out, changes1]
       clear hch1; subst e10
       have a10 := (Mod.refl (fun _ => False) w10).alloc (.cells #[.int .u8 sk, .int .u16 sc, .int .u64 0, .bool false, .int .i64 sf, .int .i64 sb, .bool sh, .bool sm] 31)
       have E10 := (E9.out.mod m10 (fun k e => by omega)).q a10
       have hp10b := hp10.mod a10 (by simp)
       have hl10 : p9 < w10.heap.size := hp10.lt
       obtain ⟨⟨x0, x1, x2⟩, x3, x4, x5⟩ := E10.all
       have z10 := E10.size.2
       clear hp10
       replace hR10 := hide hR10; replace m10 := hide m10; replace E10 := hide E10; replace hp10b := hide hp10b; replace a10 := hide a10)
    | (go_at_call 9; (with_reducible refine (new_any ⟨va, vb, vc⟩ _).mono ?_); rintro e w11 ⟨p11, rfl, hp11, m11, o11⟩
       have E11 := (E10.out.q m11).alloc (.cells #[.int .u8 0, .int .u8 0, .int .u8 0, .int .u8 0] 5)
       have q11 := row4 w11 w11.heap.size rfl
       have hp10c := (hp10b.out.mod m11 (by simp)).mod ((Mod.refl (fun _ => False) w11).alloc (.cells #[.int .u8 0, .int .u8 0, .int .u8 0, .int .u8 0] 5)) (by simp)
       have hp11b := hp11.mod ((Mod.refl (fun _ => False) w11).alloc (.cells #[.int .u8 0, .int .u8 0, .int .u8 0, .int .u8 0] 5)) (by simp)
       have hl11 : p11 < w11.heap.size := hp11.lt
       have pne : p9 ≠ p11 := by simp at o11; omega
       have o11b := o11
       simp at o11b
       have z11 : LB ≤ w11.heap.size := (E10.out.q m11).size.1
       clear hp11
       replace m11 := hide m11; replace E11 := hide E11; replace q11 := hide q11; replace hp10c := hide hp10c; replace hp11b := hide hp11b)
    | (at_builtin; refine list_app (.tmp 97) (.tmp 98) 25 5 _ 1 1 (ic .u8) rfl rfl (ic_len _) (ic_one _) Try.underlying25 elem5 (.slice (some ⟨w11.heap.size, 0, none⟩) 4 4) head4 (some ⟨g3, 4, none⟩) 20 (c3 - 4) (pX false ⟨ua, ub, uc⟩) rfl rfl q11.out E11.out.2.1 (by simp [maxLen, head4]) (by simp [head4]) ?_
       intro v12 w12 h12 k12 a12
       have n12 := own_mod k12 rfl
       obtain ⟨b12, c12, e12, -⟩ := h12.some_ (by simp [head4])
       have E12 := E11.out.mod n12 (fun k e => by omega)
       have o12 : w11.heap.size ≤ b12 := own_new a12 e12 (fun k e => by have e2 : w11.heap.size = k := Option.some.inj e; omega) (by simp)
       replace e12 : v12 = .slice (some ⟨b12, 0, none⟩) 24 c12 := e12
       subst e12
       have hp10d := hp10c.out.mod n12 (by omega)
       have hp11d := hp11b.out.mod n12 (by omega)
       clear k12 a12 n12
       replace h12 : Row w12 5 1 (ic .u8) (.slice (some ⟨b12, 0, none⟩) 24 c12) (head4 ++ pX false ⟨ua, ub, uc⟩) := h12
       have hc12 := cap_of h12
       have hsel12 := select_any p11 bring0 (some ⟨b12, 0, none⟩) 24 c12 (head4 ++ pX false ⟨ua, ub, uc⟩) ⟨va, vb, vc⟩ ⟨va, vb, vc⟩ w12 hp11d hc12.1 hc12.2 (h12.rd (ic_len _) rfl) hbx.out
       clear h12 hc12 hp11d
       replace E12 := hide E12; replace hp10d := hide hp10d; replace hsel12 := hide hsel12)
    | (go_at_call 11; (with_reducible refine hsel12.out.mono ?_); rintro e w13 ⟨d, ⟨tk, tc, tf, tb, th, tm⟩, ok2, n13, s13, hR13, rfl, hp13, m13⟩
       obtain ⟨rfl, rfl, hd⟩ := joins_x _ _ _ _ _ _ _ _ _ hR13
       have a13 := ((Mod.refl (fun _ => False) w13).alloc (.cells #[.int .u8 tk, .int .u16 tc, .int .u64 0, .bool false, .int .i64 tf, .int .i64 tb, .bool th, .bool tm] 31))
       have a13b := a13.alloc (.cells #[.int .u8 0, .int .u8 0, .int .u8 0, .int .u8 0] 5)
       have E13 := (E12.out.mod m13 (fun k e => by omega)).q a13b
       have hp13b := hp13.mod a13b (by simp)
       have hp10e := (hp10d.out.mod m13 pne).mod a13b (by simp)
       have q13 := row4 (w13.alloc (.cells #[.int .u8 tk, .int .u16 tc, .int .u64 0, .bool false, .int .i64 tf, .int .i64 tb, .bool th, .bool tm] 31)) (w13.heap.size + 1) (by simp)
       have hl13 : p11 < w13.heap.size := hp13.lt
       have z13 := E13.size.1
       have z13b := (E12.out.mod m13 (fun k e => by omega)).size.1
       clear hp13 a13 a13b
       replace hR13 := hide hR13; replace m13 := hide m13; replace E13 := hide E13; replace hp13b := hide hp13b; replace hp10e := hide hp10e; replace q13 := hide q13; replace hd := hide hd)
    | (at_builtin; refine list_app (.tmp 107) (.tmp 108) 25 5 _ 1 1 (ic .u8) rfl rfl (ic_len _) (ic_one _) Try.underlying25 elem5 (.slice (some ⟨w13.heap.size + 1, 0, none⟩) 4 4) head4 (some ⟨g4, 4, none⟩) 12 (c4 - 4) (pY false ⟨ua, ub, uc⟩) rfl rfl q13.out E13.out.2.2.1 (by simp [maxLen, head4]) (by simp [head4]) ?_
       intro v14 w14 h14 k14 a14
       have n14 := own_mod k14 rfl
       obtain ⟨b14, c14, e14, -⟩ := h14.some_ (by simp [head4])
       have s13 : (w13.alloc (.cells #[.int .u8 tk, .int .u16 tc, .int .u64 0, .bool false, .int .i64 tf, .int .i64 tb, .bool th, .bool tm] 31)).heap.size = w13.heap.size + 1 := by simp
       have E14 := E13.out.mod n14 (fun k e => by omega)
       have o14 : w13.heap.size ≤ b14 := own_new a14 e14 (fun k e => by have e2 : w13.heap.size + 1 = k := Option.some.inj e; omega) (by simp <;> omega)
       replace e14 : v14 = .slice (some ⟨b14, 0, none⟩) 16 c14 := e14
       subst e14
       have hp10f := hp10e.out.mod n14 (by omega)
       have hp13d := hp13b.out.mod n14 (by omega)
       clear k14 a14 n14 s13
       replace h14 : Row w14 5 1 (ic .u8) (.slice (some ⟨b14, 0, none⟩) 16 c14) (head4 ++ pY false ⟨ua, ub, uc⟩) := h14
       have hc14 := cap_of h14
       have hsel14 := select_any p11 bring0 (some ⟨b14, 0, none⟩) 16 c14 (head4 ++ pY false ⟨ua, ub, uc⟩) _ _ w14 hp13d hc14.1 hc14.2 (h14.rd (ic_len _) rfl) hby.out
       clear h14 hc14 hp13d
       replace E14 := hide E14; replace hp10f := hide hp10f; replace hsel14 := hide hsel14)
    | (go_at_call 11; (with_reducible refine hsel14.out.mono ?_); rintro e w15 ⟨d2, ⟨uk, uc2, uf, ub2, uh, um⟩, ok3, n15, s15, hR15, rfl, hp15, m15⟩
       obtain ⟨rfl, hn15, hd2⟩ := joins_y _ _ _ _ _ _ _ _ _ hR15
       have hdd : (d || d2) = ch1 := by rw [hd.out, hd2, hdv.out]; exact changes _ _ _
       rw [fXY] at hn15
       clear hd2
       subst hn15
       have a15 := ((Mod.refl (fun _ => False) w15).alloc (.cells #[.int .u8 uk, .int .u16 uc2, .int .u64 0, .bool false, .int .i64 uf, .int .i64 ub2, .bool uh, .bool um] 31))
       have E15 := (E14.out.mod m15 (fun k e => by omega)).q a15
       have hp15b := hp15.mod a15 (by simp)
       have hp10g := (hp10f.out.mod m15 pne).mod a15 (by simp)
       clear hp15 a15
       replace hR15 := hide hR15; replace m15 := hide m15; replace E15 := hide E15; replace hp15b := hide hp15b; replace hp10g := hide hp10g; replace hdd := hide hdd))
  cases d
  · have e9 : d2 = ch1 := by rw [← hdd.out]; rfl
    clear hdd
    subst e9
    clear hd
    go_region_held3 (fun w' => (w'.cell? ⟨w.heap.size, 0, none⟩ = some (.bool va) ∧ w'.cell? ⟨w.heap.size, 1, none⟩ = some (.bool vb) ∧ w'.cell? ⟨w.heap.size, 2, none⟩ = some (.bool vc)) ∧ (w'.cell? ⟨w.heap.size + 1, 0, none⟩ = some (.bool ua) ∧ w'.cell? ⟨w.heap.size + 1, 1, none⟩ = some (.bool ub) ∧ w'.cell? ⟨w.heap.size + 1, 2, none⟩ = some (.bool uc)))
      (first | exact E15.out.all | exact E15.out.drew.all | exact E16.out.all | exact E17.out.all)
      (first
      | (go_at_call 12; (with_reducible refine (now_some p9 ⟨ua, ub, uc⟩ s10 _ ?_).mono ?_); (exact hp10g.out); rintro e w16 ⟨rfl, m16⟩
         have E16 := Env.q E15.out.drew m16
         have hp16 := pgq hp15b.out m16
         replace m16 := hide m16; replace E16 := hide E16; replace hp16 := hide hp16)
      | (go_at_call 12; (with_reducible refine (now_some p11 ⟨ua, ub, uc⟩ s15 _ ?_).mono ?_); (exact hp16.out); rintro e w17 ⟨rfl, m17⟩
         have E17 := Env.q E16.out m17
         replace m17 := hide m17; replace E17 := hide E17))
    all_goals
      go_wp2_with fail
      go_ret
      exact ⟨rfl, E17.out.2.2.2.1.below (Nat.le_refl _) (fun _ h => h.elim)⟩
  · have e9 : ch1 = true := by rw [← hdd.out]; rfl
    clear hdd
    obtain rfl : true = ch1 := e9.symm
    clear hd
    refine wp_region_held_drew (S := (fun w' => (w'.cell? ⟨w.heap.size, 0, none⟩ = some (.bool va) ∧ w'.cell? ⟨w.heap.size, 1, none⟩ = some (.bool vb) ∧ w'.cell? ⟨w.heap.size, 2, none⟩ = some (.bool vc)) ∧ (w'.cell? ⟨w.heap.size + 1, 0, none⟩ = some (.bool ua) ∧ w'.cell? ⟨w.heap.size + 1, 1, none⟩ = some (.bool ub) ∧ w'.cell? ⟨w.heap.size + 1, 2, none⟩ = some (.bool uc)))) (by kernel_rfl) ?_ (fun hHeld => ?_)
    · exact E15.out.drew.all
    refine wpAnyH_take (i := 0) (oi := ⟨_, _, _, _, _, _⟩) (v := ?_) rfl (by kernel_rfl) (by kernel_rfl) (by kernel_rfl) (fun _ _ _ h => h) (Or.inl ⟨by rfl, ?_⟩) (by assumption) ?_
    rotate_left 1
    · intro w hSw
      (try dsimp only at hSw)
      go_simp
      try with_reducible rfl
    try simp only [Act.put, List.setIfInBounds_toArray, List.set_cons_zero, List.set_cons_succ]
    refine wpAnyH_take (i := 1) (oi := ⟨_, _, _, _, _, _⟩) (v := ?_) rfl (by kernel_rfl) (by kernel_rfl) (by kernel_rfl) (fun _ _ _ h => h) (Or.inl ⟨by rfl, ?_⟩) (by assumption) ?_
    rotate_left 1
    · intro w hSw
      (try dsimp only at hSw)
      go_simp
      try with_reducible rfl
    try simp only [Act.put, List.setIfInBounds_toArray, List.set_cons_zero, List.set_cons_succ]
    refine wpAnyH_take (i := 2) (oi := ⟨_, _, _, _, _, _⟩) (v := ?_) rfl (by kernel_rfl) (by kernel_rfl) (by kernel_rfl) (fun _ _ _ h => h) (Or.inl ⟨by rfl, ?_⟩) (by assumption) ?_
    rotate_left 1
    · intro w hSw
      (try dsimp only at hSw)
      go_simp
      try with_reducible rfl
    try simp only [Act.put, List.setIfInBounds_toArray, List.set_cons_zero, List.set_cons_succ]
    refine wpAnyH_take (i := 3) (oi := ⟨_, _, _, _, _, _⟩) (v := ?_) rfl (by kernel_rfl) (by kernel_rfl) (by kernel_rfl) (fun _ _ _ h => h) (Or.inl ⟨by rfl, ?_⟩) (by assumption) ?_
    rotate_left 1
    · intro w hSw
      (try dsimp only at hSw)
      go_simp
      try with_reducible rfl
    try simp only [Act.put, List.setIfInBounds_toArray, List.set_cons_zero, List.set_cons_succ]
    refine wpAnyH_take (i := 4) (oi := ⟨_, _, _, _, _, _⟩) (v := ?_) rfl (by kernel_rfl) (by kernel_rfl) (by kernel_rfl) (fun _ _ _ h => h) (Or.inl ⟨by rfl, ?_⟩) (by assumption) ?_
    rotate_left 1
    · intro w hSw
      (try dsimp only at hSw)
      go_simp
      try with_reducible rfl
    try simp only [Act.put, List.setIfInBounds_toArray, List.set_cons_zero, List.set_cons_succ]
    refine wpAnyH_take (i := 5) (oi := ⟨_, _, _, _, _, _⟩) (v := ?_) rfl (by kernel_rfl) (by kernel_rfl) (by kernel_rfl) (fun _ _ _ h => h) (Or.inl ⟨by rfl, ?_⟩) (by assumption) ?_
    rotate_left 1
    · intro w hSw
      (try dsimp only at hSw)
      go_simp
      try with_reducible rfl
    try simp only [Act.put, List.setIfInBounds_toArray, List.set_cons_zero, List.set_cons_succ]
    refine wpAnyH_take (i := 6) (oi := ⟨_, _, _, _, _, _⟩) (v := ?_) rfl (by kernel_rfl) (by kernel_rfl) (by kernel_rfl) (fun _ _ _ h => h) (Or.inl ⟨by rfl, ?_⟩) (by assumption) ?_
    rotate_left 1
    · intro w hSw
      (try dsimp only at hSw)
      go_simp
      try with_reducible rfl
    try simp only [Act.put, List.setIfInBounds_toArray, List.set_cons_zero, List.set_cons_succ]
    refine wpAnyH_take (i := 7) (oi := ⟨_, _, _, _, _, _⟩) (v := ?_) rfl (by kernel_rfl) (by kernel_rfl) (by kernel_rfl) (fun _ _ _ h => h) (Or.inl ⟨by rfl, ?_⟩) (by assumption) ?_
    rotate_left 1
    · intro w hSw
      (try dsimp only at hSw)
      go_simp
      try with_reducible rfl
    try simp only [Act.put, List.setIfInBounds_toArray, List.set_cons_zero, List.set_cons_succ]
    refine wpAnyH_take (i := 8) (oi := ⟨_, _, _, _, _, _⟩) (v := ?_) rfl (by kernel_rfl) (by kernel_rfl) (by kernel_rfl) (fun _ _ _ h => h) (Or.inl ⟨by rfl, ?_⟩) (by assumption) ?_
    rotate_left 1
    · intro w hSw
      (try dsimp only at hSw)
      go_simp
      try with_reducible rfl
    try simp only [Act.put, List.setIfInBounds_toArray, List.set_cons_zero, List.set_cons_succ]
    refine wpAnyH_take (i := 10) (oi := ⟨_, _, _, _, _, _⟩) (v := ?_) rfl (by kernel_rfl) (by kernel_rfl) (by kernel_rfl) (fun _ _ _ h => h) (Or.inl ⟨by rfl, ?_⟩) (by assumption) ?_
    rotate_left 1
    · intro w hSw
      (try dsimp only at hSw)
      go_simp
      try with_reducible rfl
    try simp only [Act.put, List.setIfInBounds_toArray, List.set_cons_zero, List.set_cons_succ]
    refine wpAnyH_ready (rs := [9]) (by kernel_rfl) (by simp) ?_
    refine AllReadyH.cons rfl (fun K hK => ?_) ?_
    rotate_left 1
    · exact AllReadyH.nil
    go_simp
    (go_at_call 12; (with_reducible refine (now_some p9 ⟨ua, ub, uc⟩ s10 _ ?_).mono ?_); (exact hp10g.out); rintro e w16 ⟨rfl, m16⟩
     have E16 := Env.q E15.out.drew m16
     have hp16 := pgq hp15b.out m16
     replace m16 := hide m16; replace E16 := hide E16; replace hp16 := hide hp16)
    go_wp2_with fail
    refine hK.out _ _ ?_ (fun hHeld => ?_)
    · exact E16.out.all
    clear hK K
    try simp only [Act.put, List.setIfInBounds_toArray, List.set_cons_zero, List.set_cons_succ]
    refine wpAnyH_take (i := 11) (oi := ⟨_, _, _, _, _, _⟩) (v := ?_) rfl (by kernel_rfl) (by kernel_rfl) (by kernel_rfl) (fun _ _ _ h => h) (Or.inl ⟨by rfl, ?_⟩) (by assumption) ?_
    rotate_left 1
    · intro w hSw
      (try dsimp only at hSw)
      go_simp
      try with_reducible rfl
    try simp only [Act.put, List.setIfInBounds_toArray, List.set_cons_zero, List.set_cons_succ]
    refine wpAnyH_take (i := 12) (oi := ⟨_, _, _, _, _, _⟩) (v := ?_) rfl (by kernel_rfl) (by kernel_rfl) (by kernel_rfl) (fun _ _ _ h => h) (Or.inl ⟨by rfl, ?_⟩) (by assumption) ?_
    rotate_left 1
    · intro w hSw
      (try dsimp only at hSw)
      go_simp
      try with_reducible rfl
    try simp only [Act.put, List.setIfInBounds_toArray, List.set_cons_zero, List.set_cons_succ]
    refine wpAnyH_take (i := 13) (oi := ⟨_, _, _, _, _, _⟩) (v := ?_) rfl (by kernel_rfl) (by kernel_rfl) (by kernel_rfl) (fun _ _ _ h => h) (Or.inl ⟨by rfl, ?_⟩) (by assumption) ?_
    rotate_left 1
    · intro w hSw
      (try dsimp only at hSw)
      go_simp
      try with_reducible rfl
    try simp only [Act.put, List.setIfInBounds_toArray, List.set_cons_zero, List.set_cons_succ]
    refine wpAnyH_take (i := 14) (oi := ⟨_, _, _, _, _, _⟩) (v := ?_) rfl (by kernel_rfl) (by kernel_rfl) (by kernel_rfl) (fun _ _ _ h => h) (Or.inl ⟨by rfl, ?_⟩) (by assumption) ?_
    rotate_left 1
    · intro w hSw
      (try dsimp only at hSw)
      go_simp
      try with_reducible rfl
    try simp only [Act.put, List.setIfInBounds_toArray, List.set_cons_zero, List.set_cons_succ]
    refine wpAnyH_take (i := 16) (oi := ⟨_, _, _, _, _, _⟩) (v := ?_) rfl (by kernel_rfl) (by kernel_rfl) (by kernel_rfl) (fun _ _ _ h => h) (Or.inl ⟨by rfl, ?_⟩) (by assumption) ?_
    rotate_left 1
    · intro w hSw
      (try dsimp only at hSw)
      go_simp
      try with_reducible rfl
    try simp only [Act.put, List.setIfInBounds_toArray, List.set_cons_zero, List.set_cons_succ]
    refine wpAnyH_ready (rs := [15]) (by kernel_rfl) (by simp) ?_
    refine AllReadyH.cons rfl (fun K hK => ?_) ?_
    rotate_left 1
    · exact AllReadyH.nil
    go_simp
    (go_at_call 12; (with_reducible refine (now_some p11 ⟨ua, ub, uc⟩ s15 _ ?_).mono ?_); (exact hp16.out); rintro e w17 ⟨rfl, m17⟩
     have E17 := Env.q E16.out m17
     replace m17 := hide m17; replace E17 := hide E17)
    go_wp2_with fail
    refine hK.out _ _ ?_ (fun hHeld => ?_)
    · exact E17.out.all
    clear hK K
    try simp only [Act.put, List.setIfInBounds_toArray, List.set_cons_zero, List.set_cons_succ]
    refine wpAnyH_take (i := 17) (oi := ⟨_, _, _, _, _, _⟩) (v := ?_) rfl (by kernel_rfl) (by kernel_rfl) (by kernel_rfl) (fun _ _ _ h => h) (Or.inl ⟨by rfl, ?_⟩) (by assumption) ?_
    rotate_left 1
    · intro w hSw
      (try dsimp only at hSw)
      go_simp
      try with_reducible rfl
    try simp only [Act.put, List.setIfInBounds_toArray, List.set_cons_zero, List.set_cons_succ]
    refine wpAnyH_take (i := 18) (oi := ⟨_, _, _, _, _, _⟩) (v := ?_) rfl (by kernel_rfl) (by kernel_rfl) (by kernel_rfl) (fun _ _ _ h => h) (Or.inl ⟨by rfl, ?_⟩) (by assumption) ?_
    rotate_left 1
    · intro w hSw
      (try dsimp only at hSw)
      go_simp
      try with_reducible rfl
    try simp only [Act.put, List.setIfInBounds_toArray, List.set_cons_zero, List.set_cons_succ]
    refine wpAnyH_take (i := 19) (oi := ⟨_, _, _, _, _, _⟩) (v := ?_) rfl (by kernel_rfl) (by kernel_rfl) (by kernel_rfl) (fun _ _ _ h => h) (Or.inl ⟨by rfl, ?_⟩) (by assumption) ?_
    rotate_left 1
    · intro w hSw
      (try dsimp only at hSw)
      go_simp
      try with_reducible rfl
    try simp only [Act.put, List.setIfInBounds_toArray, List.set_cons_zero, List.set_cons_succ]
    refine wpAnyH_take (i := 20) (oi := ⟨_, _, _, _, _, _⟩) (v := ?_) rfl (by kernel_rfl) (by kernel_rfl) (by kernel_rfl) (fun _ _ _ h => h) (Or.inl ⟨by rfl, ?_⟩) (by assumption) ?_
    rotate_left 1
    · intro w hSw
      (try dsimp only at hSw)
      go_simp
      try with_reducible rfl
    try simp only [Act.put, List.setIfInBounds_toArray, List.set_cons_zero, List.set_cons_succ]
    refine wpAnyH_take (i := 21) (oi := ⟨_, _, _, _, _, _⟩) (v := ?_) rfl (by kernel_rfl) (by kernel_rfl) (by kernel_rfl) (fun _ _ _ h => h) (Or.inl ⟨by rfl, ?_⟩) (by assumption) ?_
    rotate_left 1
    · intro w hSw
      (try dsimp only at hSw)
      go_simp
      try with_reducible rfl
    try simp only [Act.put, List.setIfInBounds_toArray, List.set_cons_zero, List.set_cons_succ]
    refine wpAnyH_take (i := 22) (oi := ⟨_, _, _, _, _, _⟩) (v := ?_) rfl (by kernel_rfl) (by kernel_rfl) (by kernel_rfl) (fun _ _ _ h => h) (Or.inl ⟨by rfl, ?_⟩) (by assumption) ?_
    rotate_left 1
    · intro w hSw
      (try dsimp only at hSw)
      go_simp
      try with_reducible rfl
    try simp only [Act.put, List.setIfInBounds_toArray, List.set_cons_zero, List.set_cons_succ]
    refine wpAnyH_take (i := 23) (oi := ⟨_, _, _, _, _, _⟩) (v := ?_) rfl (by kernel_rfl) (by kernel_rfl) (by kernel_rfl) (fun _ _ _ h => h) (Or.inl ⟨by rfl, ?_⟩) (by assumption) ?_
    rotate_left 1
    · intro w hSw
      (try dsimp only at hSw)
      go_simp
      try with_reducible rfl
    try simp only [Act.put, List.setIfInBounds_toArray, List.set_cons_zero, List.set_cons_succ]
    refine wpAnyH_take (i := 24) (oi := ⟨_, _, _, _, _, _⟩) (v := ?_) rfl (by kernel_rfl) (by kernel_rfl) (by kernel_rfl) (fun _ _ _ h => h) (Or.inl ⟨by rfl, ?_⟩) (by assumption) ?_
    rotate_left 1
    · intro w hSw
      (try dsimp only at hSw)
      go_simp
      try with_reducible rfl
    try simp only [Act.put, List.setIfInBounds_toArray, List.set_cons_zero, List.set_cons_succ]
    refine wpAnyH_take (i := 25) (oi := ⟨_, _, _, _, _, _⟩) (v := ?_) rfl (by kernel_rfl) (by kernel_rfl) (by kernel_rfl) (fun _ _ _ h => h) (Or.inl ⟨by rfl, ?_⟩) (by assumption) ?_
    rotate_left 1
    · intro w hSw
      (try dsimp only at hSw)
      go_simp
      try with_reducible rfl
    try simp only [Act.put, List.setIfInBounds_toArray, List.set_cons_zero, List.set_cons_succ]
    refine wpAnyH_take (i := 26) (oi := ⟨_, _, _, _, _, _⟩) (v := ?_) rfl (by kernel_rfl) (by kernel_rfl) (by kernel_rfl) (fun _ _ _ h => h) (Or.inl ⟨by rfl, ?_⟩) (by assumption) ?_
    rotate_left 1
    · intro w hSw
      (try dsimp only at hSw)
      go_simp
      try with_reducible rfl
    try simp only [Act.put, List.setIfInBounds_toArray, List.set_cons_zero, List.set_cons_succ]
    refine wpAnyH_take (i := 27) (oi := ⟨_, _, _, _, _, _⟩) (v := ?_) rfl (by kernel_rfl) (by kernel_rfl) (by kernel_rfl) (fun _ _ _ h => h) (Or.inl ⟨by rfl, ?_⟩) (by assumption) ?_
    rotate_left 1
    · intro w hSw
      (try dsimp only at hSw)
      go_simp
      try with_reducible rfl
    try simp only [Act.put, List.setIfInBounds_toArray, List.set_cons_zero, List.set_cons_succ]
    refine wpAnyH_take (i := 28) (oi := ⟨_, _, _, _, _, _⟩) (v := ?_) rfl (by kernel_rfl) (by kernel_rfl) (by kernel_rfl) (fun _ _ _ h => h) (Or.inl ⟨by rfl, ?_⟩) (by assumption) ?_
    rotate_left 1
    · intro w hSw
      (try dsimp only at hSw)
      go_simp
      try with_reducible rfl
    try simp only [Act.put, List.setIfInBounds_toArray, List.set_cons_zero, List.set_cons_succ]
    refine wpAnyH_take (i := 29) (oi := ⟨_, _, _, _, _, _⟩) (v := undef) rfl (by kernel_rfl) (by kernel_rfl) (by kernel_rfl) (fun _ _ _ h => h) (Or.inr ⟨by rfl, rfl⟩) (by assumption) ?_
    try simp only [Act.put, List.setIfInBounds_toArray, List.set_cons_zero, List.set_cons_succ]
    refine wpAnyH_take (i := 30) (oi := ⟨_, _, _, _, _, _⟩) (v := ?_) rfl (by kernel_rfl) (by kernel_rfl) (by kernel_rfl) (fun _ _ _ h => h) (Or.inl ⟨by rfl, ?_⟩) (by assumption) ?_
    rotate_left 1
    · intro w hSw
      (try dsimp only at hSw)
      go_simp
      try with_reducible rfl
    try simp only [Act.put, List.setIfInBounds_toArray, List.set_cons_zero, List.set_cons_succ]
    refine wpAnyH_take (i := 31) (oi := ⟨_, _, _, _, _, _⟩) (v := ?_) rfl (by kernel_rfl) (by kernel_rfl) (by kernel_rfl) (fun _ _ _ h => h) (Or.inl ⟨by rfl, ?_⟩) (by assumption) ?_
    rotate_left 1
    · intro w hSw
      (try dsimp only at hSw)
      go_simp
      try with_reducible rfl
    try simp only [Act.put, List.setIfInBounds_toArray, List.set_cons_zero, List.set_cons_succ]
    refine wpAnyH_take (i := 32) (oi := ⟨_, _, _, _, _, _⟩) (v := ?_) rfl (by kernel_rfl) (by kernel_rfl) (by kernel_rfl) (fun _ _ _ h => h) (Or.inl ⟨by rfl, ?_⟩) (by assumption) ?_
    rotate_left 1
    · intro w hSw
      (try dsimp only at hSw)
      go_simp
      try with_reducible rfl
    try simp only [Act.put, List.setIfInBounds_toArray, List.set_cons_zero, List.set_cons_succ]
    refine wpAnyH_take (i := 33) (oi := ⟨_, _, _, _, _, _⟩) (v := ?_) rfl (by kernel_rfl) (by kernel_rfl) (by kernel_rfl) (fun _ _ _ h => h) (Or.inl ⟨by rfl, ?_⟩) (by assumption) ?_
    rotate_left 1
    · intro w hSw
      (try dsimp only at hSw)
      go_simp
      try with_reducible rfl
    try simp only [Act.put, List.setIfInBounds_toArray, List.set_cons_zero, List.set_cons_succ]
    refine wpAnyH_take (i := 34) (oi := ⟨_, _, _, _, _, _⟩) (v := ?_) rfl (by kernel_rfl) (by kernel_rfl) (by kernel_rfl) (fun _ _ _ h => h) (Or.inl ⟨by rfl, ?_⟩) (by assumption) ?_
    rotate_left 1
    · intro w hSw
      (try dsimp only at hSw)
      go_simp
      try with_reducible rfl
    try simp only [Act.put, List.setIfInBounds_toArray, List.set_cons_zero, List.set_cons_succ]
    refine wpAnyH_take (i := 35) (oi := ⟨_, _, _, _, _, _⟩) (v := ?_) rfl (by kernel_rfl) (by kernel_rfl) (by kernel_rfl) (fun _ _ _ h => h) (Or.inl ⟨by rfl, ?_⟩) (by assumption) ?_
    rotate_left 1
    · intro w hSw
      (try dsimp only at hSw)
      go_simp
      try with_reducible rfl
    try simp only [Act.put, List.setIfInBounds_toArray, List.set_cons_zero, List.set_cons_succ]
    refine wpAnyH_take (i := 36) (oi := ⟨_, _, _, _, _, _⟩) (v := ?_) rfl (by kernel_rfl) (by kernel_rfl) (by kernel_rfl) (fun _ _ _ h => h) (Or.inl ⟨by rfl, ?_⟩) (by assumption) ?_
    rotate_left 1
    · intro w hSw
      (try dsimp only at hSw)
      go_simp
      try with_reducible rfl
    try simp only [Act.put, List.setIfInBounds_toArray, List.set_cons_zero, List.set_cons_succ]
    refine wpAnyH_done (by kernel_rfl) ?_ _
    go_wp2_with fail
    go_ret
    exact ⟨rfl, E17.out.2.2.2.1.below (Nat.le_refl _) (fun _ h => h.elim)⟩

set_option maxRecDepth 100000 in
set_option maxHeartbeats 4000000 in
theorem go_true (v u : V) (w : World) : Calls Try.prog 7 #[vv v, vv u, .bool true] w fun e w' => e = .returned (.bool true) ∧ Below w.heap.size w w' := by
  obtain ⟨va, vb, vc⟩ := v
  obtain ⟨ua, ub, uc⟩ := u
  have m0 : Mod (fun _ => False) w ((w.alloc (.cells #[.bool va, .bool vb, .bool vc] 23)).alloc (.cells #[.bool ua, .bool ub, .bool uc] 23)) := ((Mod.refl _ w).alloc _).alloc _
  have B0 : Bx ((w.alloc (.cells #[.bool va, .bool vb, .bool vc] 23)).alloc (.cells #[.bool ua, .bool ub, .bool uc] 23)) w.heap.size (w.heap.size + 1) ⟨va, vb, vc⟩ ⟨ua, ub, uc⟩ := ⟨heap_alloc2_old _ _ _, heap_alloc2_new _ _ _⟩
  generalize hW0 : (w.alloc (.cells #[.bool va, .bool vb, .bool vc] 23)).alloc (.cells #[.bool ua, .bool ub, .bool uc] 23) = W0 at *
  have haw := awake_any W0
  have hs1 := fun p W h => sense_n p (askP 8) ⟨ua, ub, uc⟩ ⟨ua, ub, uc⟩ W h (.inl rfl) 24 rfl (senseL (askP 8) ⟨ua, ub, uc⟩ ⟨ua, ub, uc⟩) rfl
  have hs2 := fun p W h => sense_n p (askP 10) ⟨ua, ub, uc⟩ ⟨ua, ub, uc⟩ W h (.inr (.inl rfl)) 16 rfl (senseL (askP 10) ⟨ua, ub, uc⟩ ⟨ua, ub, uc⟩) rfl
  have hbb : ∀ x ∈ head4 ++ pX true ⟨ua, ub, uc⟩ ++ pY true ⟨ua, ub, uc⟩, 0 ≤ x ∧ x ≤ 255 := by
    cases ua <;> cases ub <;> cases uc <;> decide +kernel
  have hbx : ∀ x ∈ head4 ++ pX true ⟨ua, ub, uc⟩, 0 ≤ x ∧ x ≤ 255 := fun x hx => hbb x (List.mem_append_left _ hx)
  have hby : ∀ x ∈ head4 ++ pY true ⟨ua, ub, uc⟩, 0 ≤ x ∧ x ≤ 255 := fun x hx => hbb x (by rcases List.mem_append.1 hx with h | h <;> simp [h])
  have i2 : ∀ w, (Op.equalIn 10000 23 (.agg #[.bool ua, .bool ub, .bool uc]) (.agg #[.bool ua, .bool ub, .bool uc])).run Try.prog w = .ok true w := fun w => by rw [eqInB]; simp
  have i3 : ∀ w, (binOp .eql 23 (.agg #[.bool ua, .bool ub, .bool uc]) (.agg #[.bool ua, .bool ub, .bool uc])).run Try.prog w = .ok (.bool true) w := fun w => by rw [eql23]; simp
  obtain ⟨dv, hdv⟩ : ∃ dv : Bool, dv = ((⟨va, vb, vc⟩ : V) != ⟨ua, ub, uc⟩) := ⟨_, rfl⟩
  have i6 : ∀ w, (binOp .neq 23 (.agg #[.bool va, .bool vb, .bool vc]) (.agg #[.bool ua, .bool ub, .bool uc])).run Try.prog w = .ok (.bool dv) w := fun w => by rw [neq23, hdv]
  have i7 : ∀ w, (Op.equalIn 10000 23 (.agg #[.bool va, .bool vb, .bool vc]) (.agg #[.bool ua, .bool ub, .bool uc])).run Try.prog w = .ok (!dv) w := fun w => by rw [eqInB, hdv]; simp [bne]
  have i8 := guard23
  replace hdv := hide hdv; replace haw := hide haw; replace m0 := hide m0; replace B0 := hide B0; replace hW0 := hide hW0; replace hs1 := hide hs1; replace hs2 := hide hs2; replace hbb := hide hbb; replace hbx := hide hbx; replace hby := hide hby
  go_enter Try.func7, Try.ntmps7
  go_wp2_with (first
    | (go_at_call 8; rw [hW0.out]; (with_reducible refine haw.out.mono ?_); rintro e w1 ⟨rfl, m1⟩
       have B1 := B0.out.q m1
       obtain ⟨⟨x0, x1, x2⟩, x3, x4, x5⟩ := B1.all
       have M1 := m0.out.trans m1 (by simp)
       have z1 : w.heap.size + 1 < w1.heap.size := (Array.getElem?_eq_some_iff.1 B1.2).1
       replace m1 := hide m1; replace B1 := hide B1; replace M1 := hide M1)
    | (go_at_call 9; (with_reducible refine (new_any ⟨ua, ub, uc⟩ w1).mono ?_); rintro e w2 ⟨p, rfl, hp2, m2, o2⟩
       have B2 := B1.out.q m2
       have M2 := M1.out.trans m2 (by simp)
       replace m2 := hide m2; replace B2 := hide B2; replace M2 := hide M2; replace hp2 := hide hp2)
    | (go_at_call 10; (with_reducible refine (hs1.out p w2 hp2.out).mono ?_); rintro e w3 ⟨g3, c3, rfl, r3, m3, o3⟩
       have B3 := (B2.out.q m3).q ((Mod.refl (fun _ => False) w3).alloc (.cells #[.int .u8 0, .int .u16 0, .int .u64 0, .bool false, .int .i64 0, .int .i64 0, .bool false, .bool false] 31))
       have M3 := (M2.out.trans m3 (by simp)).alloc (.cells #[.int .u8 0, .int .u16 0, .int .u64 0, .bool false, .int .i64 0, .int .i64 0, .bool false, .bool false] 31)
       have hp3 := (hp2.out.mod m3 (by simp)).mod ((Mod.refl (fun _ => False) w3).alloc (.cells #[.int .u8 0, .int .u16 0, .int .u64 0, .bool false, .int .i64 0, .int .i64 0, .bool false, .bool false] 31)) (by simp)
       have r3a := r3.alloc (.cells #[.int .u8 0, .int .u16 0, .int .u64 0, .bool false, .int .i64 0, .int .i64 0, .bool false, .bool false] 31)
       replace r3 := hide r3; replace m3 := hide m3; replace B3 := hide B3; replace M3 := hide M3; replace hp3 := hide hp3; replace r3a := hide r3a)
    | (go_at_call 10; (with_reducible refine (hs2.out p _ hp3.out).mono ?_); rintro e w4 ⟨g4, c4, rfl, r4, m4, o4⟩
       have a4 := (Mod.refl (fun _ => False) w4).alloc (.cells #[.int .u8 0, .int .u16 0, .int .u64 0, .bool false, .int .i64 0, .int .i64 0, .bool false, .bool false] 31)
       have B4 := (B3.out.q m4).q a4
       have M4 := (M3.out.trans m4 (by simp)).trans a4 (by simp)
       have r3b := (r3a.out.mod m4 (by simp)).mod a4 (by simp)
       have r4b := r4.mod a4 (by simp)
       have hc3 : 24 ≤ c3 ∧ c3 ≤ maxLen := by
         obtain ⟨A9, c9, e9, h91, h92⟩ := r3b.slice
         injection e9 with _ _ e9c
         subst e9c
         exact ⟨h91, h92⟩
       have hc4 : 16 ≤ c4 ∧ c4 ≤ maxLen := by
         obtain ⟨A9, c9, e9, h91, h92⟩ := r4b.slice
         injection e9 with _ _ e9c
         subst e9c
         exact ⟨h91, h92⟩
       have zc3 := hc3.1
       have zc4 := hc4.1
       have zm3 : c3 ≤ 9223372036854775807 := hc3.2
       have zm4 : c4 ≤ 9223372036854775807 := hc4.2
       have E4 : Env w (w4.alloc (.cells #[.int .u8 0, .int .u16 0, .int .u64 0, .bool false, .int .i64 0, .int .i64 0, .bool false, .bool false] 31)) (w4.heap.size + 1) true ⟨va, vb, vc⟩ ⟨ua, ub, uc⟩ ⟨g4, 4, none⟩ ⟨g3, 4, none⟩ := by
         have h3 : g3 < (w4.alloc (.cells #[.int .u8 0, .int .u16 0, .int .u64 0, .bool false, .int .i64 0, .int .i64 0, .bool false, .bool false] 31)).heap.size := r3b.lt _ rfl
         have h4 : g4 < (w4.alloc (.cells #[.int .u8 0, .int .u16 0, .int .u64 0, .bool false, .int .i64 0, .int .i64 0, .bool false, .bool false] 31)).heap.size := r4b.lt _ rfl
         have hsz : (w4.alloc (.cells #[.int .u8 0, .int .u16 0, .int .u64 0, .bool false, .int .i64 0, .int .i64 0, .bool false, .bool false] 31)).heap.size = w4.heap.size + 1 := by simp
         have hb := (Array.getElem?_eq_some_iff.1 B4.2).1
         have hb2 := (Array.getElem?_eq_some_iff.1 (B3.out.q m4).2).1
         exact ⟨B4, rd4 (r4b.rd (ic_len _) rfl) (by decide) rfl rfl, rd4 (r3b.rd (ic_len _) rfl) (by decide) rfl rfl, M4, by omega, by show g4 < _; omega, by show g3 < _; omega, by omega⟩
       have E5 := E4.alloc (.cells #[.int .u8 0, .int .u8 0, .int .u8 0, .int .u8 0] 5)
       have q5 := (row4 (w4.alloc (.cells #[.int .u8 0, .int .u16 0, .int .u64 0, .bool false, .int .i64 0, .int .i64 0, .bool false, .bool false] 31)) (w4.heap.size + 1) (by simp)).rd (ic_len _) rfl
       obtain ⟨LB, hLB⟩ : ∃ LB, LB = w4.heap.size + 1 := ⟨_, rfl⟩
       rw [← hLB] at E5
       clear a4 r4 m4 B4 M4 E4 r3b r4b
       replace hLB := hide hLB; replace E5 := hide E5; replace q5 := hide q5)
    | (at_builtin; refine list_app (.tmp 73) (.tmp 74) 25 5 _ 1 1 (ic .u8) rfl rfl (ic_len _) (ic_one _) Try.underlying25 elem5 (.slice none 0 0) [] _ 4 4 head4 rfl rfl (Row.nil _ _ _ _) q5.out (by simp [maxLen]) (by simp) ?_
       intro v6 w6 h6 k6 a6
       have n6 := none_mod k6
       obtain ⟨b6, c6, e6, -⟩ := h6.some_ (by simp [head4])
       have E6 := E5.out.q n6
       have o6 : LB ≤ b6 := own_new a6 e6 (by simp [Value.ownBlock]) E5.out.size.1
       replace e6 : v6 = .slice (some ⟨b6, 0, none⟩) 4 c6 := e6
       subst e6
       clear k6 a6 n6
       replace h6 : Row w6 5 1 (ic .u8) (.slice (some ⟨b6, 0, none⟩) 4 c6) head4 := h6
       replace h6 := hide h6; replace E6 := hide E6)
    | (at_builtin; refine list_app (.tmp 76) (.tmp 77) 25 5 _ 1 1 (ic .u8) rfl rfl (ic_len _) (ic_one _) Try.underlying25 elem5 (.slice (some ⟨b6, 0, none⟩) 4 c6) head4 (some ⟨g4, 4, none⟩) 12 (c4 - 4) (pX true ⟨ua, ub, uc⟩) rfl rfl h6.out E6.out.2.1 (by simp [maxLen, head4]) (by simp [head4]) ?_
       intro v7 w7 h7 k7 a7
       have n7 := own_mod k7 rfl
       obtain ⟨b7, c7, e7, -⟩ := h7.some_ (by simp [head4])
       have E7 := E6.out.mod n7 (fun k e => by omega)
       have o7 : LB ≤ b7 := own_new a7 e7 (fun k e => by have e2 : b6 = k := Option.some.inj e; omega) E6.out.size.1
       replace e7 : v7 = .slice (some ⟨b7, 0, none⟩) 16 c7 := e7
       subst e7
       clear k7 a7 n7
       replace h7 : Row w7 5 1 (ic .u8) (.slice (some ⟨b7, 0, none⟩) 16 c7) (head4 ++ pX true ⟨ua, ub, uc⟩) := h7
       replace h7 := hide h7; replace E7 := hide E7)
    | (at_builtin; refine list_app (.tmp 79) (.tmp 80) 25 5 _ 1 1 (ic .u8) rfl rfl (ic_len _) (ic_one _) Try.underlying25 elem5 (.slice (some ⟨b7, 0, none⟩) 16 c7) (head4 ++ pX true ⟨ua, ub, uc⟩) (some ⟨g3, 4, none⟩) 20 (c3 - 4) (pY true ⟨ua, ub, uc⟩) rfl rfl h7.out E7.out.2.2.1 (by simp [maxLen, head4, pX, cachL, ctlL]) (by simp [head4, pX, cachL, ctlL]) ?_
       intro v8 w8 h8 k8 a8
       have n8 := own_mod k8 rfl
       obtain ⟨b8, c8, e8, -⟩ := h8.some_ (by simp [head4])
       have E8 := E7.out.mod n8 (fun k e => by omega)
       have o8 : LB ≤ b8 := own_new a8 e8 (fun k e => by have e2 : b7 = k := Option.some.inj e; omega) E7.out.size.1
       replace e8 : v8 = .slice (some ⟨b8, 0, none⟩) 36 c8 := e8
       subst e8
       clear k8 a8 n8
       replace h8 : Row w8 5 1 (ic .u8) (.slice (some ⟨b8, 0, none⟩) 36 c8) (head4 ++ pX true ⟨ua, ub, uc⟩ ++ pY true ⟨ua, ub, uc⟩) := h8
       obtain ⟨⟨x0, x1, x2⟩, x3, x4, x5⟩ := E8.all
       have hc8 := cap_of h8
       have z8 := E8.size.2
       have z8b := E8.size.1
       replace h8 := hide h8; replace E8 := hide E8; replace hc8 := hide hc8)
    | (go_at_call 9; (with_reducible refine (new_any ⟨va, vb, vc⟩ w8).mono ?_); rintro e w9 ⟨p9, rfl, hp9, m9, o9⟩
       have E9 := E8.out.q m9
       have b9 : b8 < w8.heap.size := h8.out.lt _ rfl
       have hsel9 := select_any p9 bring0 (some ⟨b8, 0, none⟩) 36 c8 (head4 ++ pX true ⟨ua, ub, uc⟩ ++ pY true ⟨ua, ub, uc⟩) ⟨va, vb, vc⟩ ⟨va, vb, vc⟩ w9 hp9 hc8.out.1 hc8.out.2 ((h8.out.mod m9 (by simp)).rd (ic_len _) rfl) hbb.out
       clear hp9
       replace m9 := hide m9; replace E9 := hide E9; replace hsel9 := hide hsel9)
    | (go_at_call 11; (with_reducible refine hsel9.out.mono ?_); rintro e w10 ⟨ch1, ⟨sk, sc, sf, sb, sh, sm⟩, ok1, n10, s10, hR10, rfl, hp10, m10⟩
       obtain ⟨rfl, rfl, hch1⟩ := joins_both _ _ ⟨va, vb, vc⟩ _ _ _ _ _ _ _ hR10
       have e10 : ch1 = dv := by rw [hch1, hdv.out, changes1]
       clear hch1; subst e10
       have a10 := (Mod.refl (fun _ => False) w10).alloc (.cells #[.int .u8 sk, .int .u16 sc, .int .u64 0, .bool false, .int .i64 sf, .int .i64 sb, .bool sh, .bool sm] 31)
       have E10 := (E9.out.mod m10 (fun k e => by omega)).q a10
       have hp10b := hp10.mod a10 (by simp)
       have hl10 : p9 < w10.heap.size := hp10.lt
       obtain ⟨⟨x0, x1, x2⟩, x3, x4, x5⟩ := E10.all
       have z10 := E10.size.2
       clear hp10
       replace hR10 := hide hR10; replace m10 := hide m10; replace E10 := hide E10; replace hp10b := hide hp10b; replace a10 := hide a10)
    | (go_at_call 9; (with_reducible refine (new_any ⟨va, vb, vc⟩ _).mono ?_); rintro e w11 ⟨p11, rfl, hp11, m11, o11⟩
       have E11 := (E10.out.q m11).alloc (.cells #[.int .u8 0, .int .u8 0, .int .u8 0, .int .u8 0] 5)
       have q11 := row4 w11 w11.heap.size rfl
       have hp10c := (hp10b.out.mod m11 (by simp)).mod ((Mod.refl (fun _ => False) w11).alloc (.cells #[.int .u8 0, .int .u8 0, .int .u8 0, .int .u8 0] 5)) (by simp)
       have hp11b := hp11.mod ((Mod.refl (fun _ => False) w11).alloc (.cells #[.int .u8 0, .int .u8 0, .int .u8 0, .int .u8 0] 5)) (by simp)
       have hl11 : p11 < w11.heap.size := hp11.lt
       have pne : p9 ≠ p11 := by simp at o11; omega
       have o11b := o11
       simp at o11b
       have z11 : LB ≤ w11.heap.size := (E10.out.q m11).size.1
       clear hp11
       replace m11 := hide m11; replace E11 := hide E11; replace q11 := hide q11; replace hp10c := hide hp10c; replace hp11b := hide hp11b)
    | (at_builtin; refine list_app (.tmp 97) (.tmp 98) 25 5 _ 1 1 (ic .u8) rfl rfl (ic_len _) (ic_one _) Try.underlying25 elem5 (.slice (some ⟨w11.heap.size, 0, none⟩) 4 4) head4 (some ⟨g4, 4, none⟩) 12 (c4 - 4) (pX true ⟨ua, ub, uc⟩) rfl rfl q11.out E11.out.2.1 (by simp [maxLen, head4]) (by simp [head4]) ?_
       intro v12 w12 h12 k12 a12
       have n12 := own_mod k12 rfl
       obtain ⟨b12, c12, e12, -⟩ := h12.some_ (by simp [head4])
       have E12 := E11.out.mod n12 (fun k e => by omega)
       have o12 : w11.heap.size ≤ b12 := own_new a12 e12 (fun k e => by have e2 : w11.heap.size = k := Option.some.inj e; omega) (by simp)
       replace e12 : v12 = .slice (some ⟨b12, 0, none⟩) 16 c12 := e12
       subst e12
       have hp10d := hp10c.out.mod n12 (by omega)
       have hp11d := hp11b.out.mod n12 (by omega)
       clear k12 a12 n12
       replace h12 : Row w12 5 1 (ic .u8) (.slice (some ⟨b12, 0, none⟩) 16 c12) (head4 ++ pX true ⟨ua, ub, uc⟩) := h12
       have hc12 := cap_of h12
       have hsel12 := select_any p11 bring0 (some ⟨b12, 0, none⟩) 16 c12 (head4 ++ pX true ⟨ua, ub, uc⟩) ⟨va, vb, vc⟩ ⟨va, vb, vc⟩ w12 hp11d hc12.1 hc12.2 (h12.rd (ic_len _) rfl) hbx.out
       clear h12 hc12 hp11d
       replace E12 := hide E12; replace hp10d := hide hp10d; replace hsel12 := hide hsel12)
    | (go_at_call 11; (with_reducible refine hsel12.out.mono ?_); rintro e w13 ⟨d, ⟨tk, tc, tf, tb, th, tm⟩, ok2, n13, s13, hR13, rfl, hp13, m13⟩
       obtain ⟨rfl, rfl, hd⟩ := joins_x _ _ _ _ _ _ _ _ _ hR13
       have a13 := ((Mod.refl (fun _ => False) w13).alloc (.cells #[.int .u8 tk, .int .u16 tc, .int .u64 0, .bool false, .int .i64 tf, .int .i64 tb, .bool th, .bool tm] 31))
       have a13b := a13.alloc (.cells #[.int .u8 0, .int .u8 0, .int .u8 0, .int .u8 0] 5)
       have E13 := (E12.out.mod m13 (fun k e => by omega)).q a13b
       have hp13b := hp13.mod a13b (by simp)
       have hp10e := (hp10d.out.mod m13 pne).mod a13b (by simp)
       have q13 := row4 (w13.alloc (.cells #[.int .u8 tk, .int .u16 tc, .int .u64 0, .bool false, .int .i64 tf, .int .i64 tb, .bool th, .bool tm] 31)) (w13.heap.size + 1) (by simp)
       have hl13 : p11 < w13.heap.size := hp13.lt
       have z13 := E13.size.1
       have z13b := (E12.out.mod m13 (fun k e => by omega)).size.1
       clear hp13 a13 a13b
       replace hR13 := hide hR13; replace m13 := hide m13; replace E13 := hide E13; replace hp13b := hide hp13b; replace hp10e := hide hp10e; replace q13 := hide q13; replace hd := hide hd)
    | (at_builtin; refine list_app (.tmp 107) (.tmp 108) 25 5 _ 1 1 (ic .u8) rfl rfl (ic_len _) (ic_one _) Try.underlying25 elem5 (.slice (some ⟨w13.heap.size + 1, 0, none⟩) 4 4) head4 (some ⟨g3, 4, none⟩) 20 (c3 - 4) (pY true ⟨ua, ub, uc⟩) rfl rfl q13.out E13.out.2.2.1 (by simp [maxLen, head4]) (by simp [head4]) ?_
       intro v14 w14 h14 k14 a14
       have n14 := own_mod k14 rfl
       obtain ⟨b14, c14, e14, -⟩ := h14.some_ (by simp [head4])
       have s13 : (w13.alloc (.cells #[.int .u8 tk, .int .u16 tc, .int .u64 0, .bool false, .int .i64 tf, .int .i64 tb, .bool th, .bool tm] 31)).heap.size = w13.heap.size + 1 := by simp
       have E14 := E13.out.mod n14 (fun k e => by omega)
       have o14 : w13.heap.size ≤ b14 := own_new a14 e14 (fun k e => by have e2 : w13.heap.size + 1 = k := Option.some.inj e; omega) (by simp <;> omega)
       replace e14 : v14 = .slice (some ⟨b14, 0, none⟩) 24 c14 := e14
       subst e14
       have hp10f := hp10e.out.mod n14 (by omega)
       have hp13d := hp13b.out.mod n14 (by omega)
       clear k14 a14 n14 s13
       replace h14 : Row w14 5 1 (ic .u8) (.slice (some ⟨b14, 0, none⟩) 24 c14) (head4 ++ pY true ⟨ua, ub, uc⟩) := h14
       have hc14 := cap_of h14
       have hsel14 := select_any p11 bring0 (some ⟨b14, 0, none⟩) 24 c14 (head4 ++ pY true ⟨ua, ub, uc⟩) _ _ w14 hp13d hc14.1 hc14.2 (h14.rd (ic_len _) rfl) hby.out
       clear h14 hc14 hp13d
       replace E14 := hide E14; replace hp10f := hide hp10f; replace hsel14 := hide hsel14)
    | (go_at_call 11; (with_reducible refine hsel14.out.mono ?_); rintro e w15 ⟨d2, ⟨uk, uc2, uf, ub2, uh, um⟩, ok3, n15, s15, hR15, rfl, hp15, m15⟩
       obtain ⟨rfl, hn15, hd2⟩ := joins_y _ _ _ _ _ _ _ _ _ hR15
       have hdd : (d || d2) = ch1 := by rw [hd.out, hd2, hdv.out]; exact changes _ _ _
       rw [fXY] at hn15
       clear hd2
       subst hn15
       have a15 := ((Mod.refl (fun _ => False) w15).alloc (.cells #[.int .u8 uk, .int .u16 uc2, .int .u64 0, .bool false, .int .i64 uf, .int .i64 ub2, .bool uh, .bool um] 31))
       have E15 := (E14.out.mod m15 (fun k e => by omega)).q a15
       have hp15b := hp15.mod a15 (by simp)
       have hp10g := (hp10f.out.mod m15 pne).mod a15 (by simp)
       clear hp15 a15
       replace hR15 := hide hR15; replace m15 := hide m15; replace E15 := hide E15; replace hp15b := hide hp15b; replace hp10g := hide hp10g; replace hdd := hide hdd))
  cases d
  · have e9 : d2 = ch1 := by rw [← hdd.out]; rfl
    clear hdd
    subst e9
    clear hd
    go_region_held3 (fun w' => (w'.cell? ⟨w.heap.size, 0, none⟩ = some (.bool va) ∧ w'.cell? ⟨w.heap.size, 1, none⟩ = some (.bool vb) ∧ w'.cell? ⟨w.heap.size, 2, none⟩ = some (.bool vc)) ∧ (w'.cell? ⟨w.heap.size + 1, 0, none⟩ = some (.bool ua) ∧ w'.cell? ⟨w.heap.size + 1, 1, none⟩ = some (.bool ub) ∧ w'.cell? ⟨w.heap.size + 1, 2, none⟩ = some (.bool uc)))
      (first | exact E15.out.all | exact E15.out.drew.all | exact E16.out.all | exact E17.out.all)
      (first
      | (go_at_call 12; (with_reducible refine (now_some p9 ⟨ua, ub, uc⟩ s10 _ ?_).mono ?_); (exact hp10g.out); rintro e w16 ⟨rfl, m16⟩
         have E16 := Env.q E15.out.drew m16
         have hp16 := pgq hp15b.out m16
         replace m16 := hide m16; replace E16 := hide E16; replace hp16 := hide hp16)
      | (go_at_call 12; (with_reducible refine (now_some p11 ⟨ua, ub, uc⟩ s15 _ ?_).mono ?_); (exact hp16.out); rintro e w17 ⟨rfl, m17⟩
         have E17 := Env.q E16.out m17
         replace m17 := hide m17; replace E17 := hide E17))
    all_goals
      go_wp2_with fail
      go_ret
      exact ⟨rfl, E17.out.2.2.2.1.below (Nat.le_refl _) (fun _ h => h.elim)⟩
  · have e9 : ch1 = true := by rw [← hdd.out]; rfl
    clear hdd
    obtain rfl : true = ch1 := e9.symm
    clear hd
    refine wp_region_held_drew (S := (fun w' => (w'.cell? ⟨w.heap.size, 0, none⟩ = some (.bool va) ∧ w'.cell? ⟨w.heap.size, 1, none⟩ = some (.bool vb) ∧ w'.cell? ⟨w.heap.size, 2, none⟩ = some (.bool vc)) ∧ (w'.cell? ⟨w.heap.size + 1, 0, none⟩ = some (.bool ua) ∧ w'.cell? ⟨w.heap.size + 1, 1, none⟩ = some (.bool ub) ∧ w'.cell? ⟨w.heap.size + 1, 2, none⟩ = some (.bool uc)))) (by kernel_rfl) ?_ (fun hHeld => ?_)
    · exact E15.out.drew.all
    refine wpAnyH_take (i := 0) (oi := ⟨_, _, _, _, _, _⟩) (v := ?_) rfl (by kernel_rfl) (by kernel_rfl) (by kernel_rfl) (fun _ _ _ h => h) (Or.inl ⟨by rfl, ?_⟩) (by assumption) ?_
    rotate_left 1
    · intro w hSw
      (try dsimp only at hSw)
      go_simp
      try with_reducible rfl
    try simp only [Act.put, List.setIfInBounds_toArray, List.set_cons_zero, List.set_cons_succ]
    refine wpAnyH_take (i := 1) (oi := ⟨_, _, _, _, _, _⟩) (v := ?_) rfl (by kernel_rfl) (by kernel_rfl) (by kernel_rfl) (fun _ _ _ h => h) (Or.inl ⟨by rfl, ?_⟩) (by assumption) ?_
    rotate_left 1
    · intro w hSw
      (try dsimp only at hSw)
      go_simp
      try with_reducible rfl
    try simp only [Act.put, List.setIfInBounds_toArray, List.set_cons_zero, List.set_cons_succ]
    refine wpAnyH_take (i := 2) (oi := ⟨_, _, _, _, _, _⟩) (v := ?_) rfl (by kernel_rfl) (by kernel_rfl) (by kernel_rfl) (fun _ _ _ h => h) (Or.inl ⟨by rfl, ?_⟩) (by assumption) ?_
    rotate_left 1
    · intro w hSw
      (try dsimp only at hSw)
      go_simp
      try with_reducible rfl
    try simp only [Act.put, List.setIfInBounds_toArray, List.set_cons_zero, List.set_cons_succ]
    refine wpAnyH_take (i := 3) (oi := ⟨_, _, _, _, _, _⟩) (v := ?_) rfl (by kernel_rfl) (by kernel_rfl) (by kernel_rfl) (fun _ _ _ h => h) (Or.inl ⟨by rfl, ?_⟩) (by assumption) ?_
    rotate_left 1
    · intro w hSw
      (try dsimp only at hSw)
      go_simp
      try with_reducible rfl
    try simp only [Act.put, List.setIfInBounds_toArray, List.set_cons_zero, List.set_cons_succ]
    refine wpAnyH_take (i := 4) (oi := ⟨_, _, _, _, _, _⟩) (v := ?_) rfl (by kernel_rfl) (by kernel_rfl) (by kernel_rfl) (fun _ _ _ h => h) (Or.inl ⟨by rfl, ?_⟩) (by assumption) ?_
    rotate_left 1
    · intro w hSw
      (try dsimp only at hSw)
      go_simp
      try with_reducible rfl
    try simp only [Act.put, List.setIfInBounds_toArray, List.set_cons_zero, List.set_cons_succ]
    refine wpAnyH_take (i := 5) (oi := ⟨_, _, _, _, _, _⟩) (v := ?_) rfl (by kernel_rfl) (by kernel_rfl) (by kernel_rfl) (fun _ _ _ h => h) (Or.inl ⟨by rfl, ?_⟩) (by assumption) ?_
    rotate_left 1
    · intro w hSw
      (try dsimp only at hSw)
      go_simp
      try with_reducible rfl
    try simp only [Act.put, List.setIfInBounds_toArray, List.set_cons_zero, List.set_cons_succ]
    refine wpAnyH_take (i := 6) (oi := ⟨_, _, _, _, _, _⟩) (v := ?_) rfl (by kernel_rfl) (by kernel_rfl) (by kernel_rfl) (fun _ _ _ h => h) (Or.inl ⟨by rfl, ?_⟩) (by assumption) ?_
    rotate_left 1
    · intro w hSw
      (try dsimp only at hSw)
      go_simp
      try with_reducible rfl
    try simp only [Act.put, List.setIfInBounds_toArray, List.set_cons_zero, List.set_cons_succ]
    refine wpAnyH_take (i := 7) (oi := ⟨_, _, _, _, _, _⟩) (v := ?_) rfl (by kernel_rfl) (by kernel_rfl) (by kernel_rfl) (fun _ _ _ h => h) (Or.inl ⟨by rfl, ?_⟩) (by assumption) ?_
    rotate_left 1
    · intro w hSw
      (try dsimp only at hSw)
      go_simp
      try with_reducible rfl
    try simp only [Act.put, List.setIfInBounds_toArray, List.set_cons_zero, List.set_cons_succ]
    refine wpAnyH_take (i := 8) (oi := ⟨_, _, _, _, _, _⟩) (v := ?_) rfl (by kernel_rfl) (by kernel_rfl) (by kernel_rfl) (fun _ _ _ h => h) (Or.inl ⟨by rfl, ?_⟩) (by assumption) ?_
    rotate_left 1
    · intro w hSw
      (try dsimp only at hSw)
      go_simp
      try with_reducible rfl
    try simp only [Act.put, List.setIfInBounds_toArray, List.set_cons_zero, List.set_cons_succ]
    refine wpAnyH_take (i := 10) (oi := ⟨_, _, _, _, _, _⟩) (v := ?_) rfl (by kernel_rfl) (by kernel_rfl) (by kernel_rfl) (fun _ _ _ h => h) (Or.inl ⟨by rfl, ?_⟩) (by assumption) ?_
    rotate_left 1
    · intro w hSw
      (try dsimp only at hSw)
      go_simp
      try with_reducible rfl
    try simp only [Act.put, List.setIfInBounds_toArray, List.set_cons_zero, List.set_cons_succ]
    refine wpAnyH_ready (rs := [9]) (by kernel_rfl) (by simp) ?_
    refine AllReadyH.cons rfl (fun K hK => ?_) ?_
    rotate_left 1
    · exact AllReadyH.nil
    go_simp
    (go_at_call 12; (with_reducible refine (now_some p9 ⟨ua, ub, uc⟩ s10 _ ?_).mono ?_); (exact hp10g.out); rintro e w16 ⟨rfl, m16⟩
     have E16 := Env.q E15.out.drew m16
     have hp16 := pgq hp15b.out m16
     replace m16 := hide m16; replace E16 := hide E16; replace hp16 := hide hp16)
    go_wp2_with fail
    refine hK.out _ _ ?_ (fun hHeld => ?_)
    · exact E16.out.all
    clear hK K
    try simp only [Act.put, List.setIfInBounds_toArray, List.set_cons_zero, List.set_cons_succ]
    refine wpAnyH_take (i := 11) (oi := ⟨_, _, _, _, _, _⟩) (v := ?_) rfl (by kernel_rfl) (by kernel_rfl) (by kernel_rfl) (fun _ _ _ h => h) (Or.inl ⟨by rfl, ?_⟩) (by assumption) ?_
    rotate_left 1
    · intro w hSw
      (try dsimp only at hSw)
      go_simp
      try with_reducible rfl
    try simp only [Act.put, List.setIfInBounds_toArray, List.set_cons_zero, List.set_cons_succ]
    refine wpAnyH_take (i := 12) (oi := ⟨_, _, _, _, _, _⟩) (v := ?_) rfl (by kernel_rfl) (by kernel_rfl) (by kernel_rfl) (fun _ _ _ h => h) (Or.inl ⟨by rfl, ?_⟩) (by assumption) ?_
    rotate_left 1
    · intro w hSw
      (try dsimp only at hSw)
      go_simp
      try with_reducible rfl
    try simp only [Act.put, List.setIfInBounds_toArray, List.set_cons_zero, List.set_cons_succ]
    refine wpAnyH_take (i := 13) (oi := ⟨_, _, _, _, _, _⟩) (v := ?_) rfl (by kernel_rfl) (by kernel_rfl) (by kernel_rfl) (fun _ _ _ h => h) (Or.inl ⟨by rfl, ?_⟩) (by assumption) ?_
    rotate_left 1
    · intro w hSw
      (try dsimp only at hSw)
      go_simp
      try with_reducible rfl
    try simp only [Act.put, List.setIfInBounds_toArray, List.set_cons_zero, List.set_cons_succ]
    refine wpAnyH_take (i := 14) (oi := ⟨_, _, _, _, _, _⟩) (v := ?_) rfl (by kernel_rfl) (by kernel_rfl) (by kernel_rfl) (fun _ _ _ h => h) (Or.inl ⟨by rfl, ?_⟩) (by assumption) ?_
    rotate_left 1
    · intro w hSw
      (try dsimp only at hSw)
      go_simp
      try with_reducible rfl
    try simp only [Act.put, List.setIfInBounds_toArray, List.set_cons_zero, List.set_cons_succ]
    refine wpAnyH_take (i := 16) (oi := ⟨_, _, _, _, _, _⟩) (v := ?_) rfl (by kernel_rfl) (by kernel_rfl) (by kernel_rfl) (fun _ _ _ h => h) (Or.inl ⟨by rfl, ?_⟩) (by assumption) ?_
    rotate_left 1
    · intro w hSw
      (try dsimp only at hSw)
      go_simp
      try with_reducible rfl
    try simp only [Act.put, List.setIfInBounds_toArray, List.set_cons_zero, List.set_cons_succ]
    refine wpAnyH_ready (rs := [15]) (by kernel_rfl) (by simp) ?_
    refine AllReadyH.cons rfl (fun K hK => ?_) ?_
    rotate_left 1
    · exact AllReadyH.nil
    go_simp
    (go_at_call 12; (with_reducible refine (now_some p11 ⟨ua, ub, uc⟩ s15 _ ?_).mono ?_); (exact hp16.out); rintro e w17 ⟨rfl, m17⟩
     have E17 := Env.q E16.out m17
     replace m17 := hide m17; replace E17 := hide E17)
    go_wp2_with fail
    refine hK.out _ _ ?_ (fun hHeld => ?_)
    · exact E17.out.all
    clear hK K
    try simp only [Act.put, List.setIfInBounds_toArray, List.set_cons_zero, List.set_cons_succ]
    refine wpAnyH_take (i := 17) (oi := ⟨_, _, _, _, _, _⟩) (v := ?_) rfl (by kernel_rfl) (by kernel_rfl) (by kernel_rfl) (fun _ _ _ h => h) (Or.inl ⟨by rfl, ?_⟩) (by assumption) ?_
    rotate_left 1
    · intro w hSw
      (try dsimp only at hSw)
      go_simp
      try with_reducible rfl
    try simp only [Act.put, List.setIfInBounds_toArray, List.set_cons_zero, List.set_cons_succ]
    refine wpAnyH_take (i := 18) (oi := ⟨_, _, _, _, _, _⟩) (v := ?_) rfl (by kernel_rfl) (by kernel_rfl) (by kernel_rfl) (fun _ _ _ h => h) (Or.inl ⟨by rfl, ?_⟩) (by assumption) ?_
    rotate_left 1
    · intro w hSw
      (try dsimp only at hSw)
      go_simp
      try with_reducible rfl
    try simp only [Act.put, List.setIfInBounds_toArray, List.set_cons_zero, List.set_cons_succ]
    refine wpAnyH_take (i := 19) (oi := ⟨_, _, _, _, _, _⟩) (v := ?_) rfl (by kernel_rfl) (by kernel_rfl) (by kernel_rfl) (fun _ _ _ h => h) (Or.inl ⟨by rfl, ?_⟩) (by assumption) ?_
    rotate_left 1
    · intro w hSw
      (try dsimp only at hSw)
      go_simp
      try with_reducible rfl
    try simp only [Act.put, List.setIfInBounds_toArray, List.set_cons_zero, List.set_cons_succ]
    refine wpAnyH_take (i := 20) (oi := ⟨_, _, _, _, _, _⟩) (v := ?_) rfl (by kernel_rfl) (by kernel_rfl) (by kernel_rfl) (fun _ _ _ h => h) (Or.inl ⟨by rfl, ?_⟩) (by assumption) ?_
    rotate_left 1
    · intro w hSw
      (try dsimp only at hSw)
      go_simp
      try with_reducible rfl
    try simp only [Act.put, List.setIfInBounds_toArray, List.set_cons_zero, List.set_cons_succ]
    refine wpAnyH_take (i := 21) (oi := ⟨_, _, _, _, _, _⟩) (v := ?_) rfl (by kernel_rfl) (by kernel_rfl) (by kernel_rfl) (fun _ _ _ h => h) (Or.inl ⟨by rfl, ?_⟩) (by assumption) ?_
    rotate_left 1
    · intro w hSw
      (try dsimp only at hSw)
      go_simp
      try with_reducible rfl
    try simp only [Act.put, List.setIfInBounds_toArray, List.set_cons_zero, List.set_cons_succ]
    refine wpAnyH_take (i := 22) (oi := ⟨_, _, _, _, _, _⟩) (v := ?_) rfl (by kernel_rfl) (by kernel_rfl) (by kernel_rfl) (fun _ _ _ h => h) (Or.inl ⟨by rfl, ?_⟩) (by assumption) ?_
    rotate_left 1
    · intro w hSw
      (try dsimp only at hSw)
      go_simp
      try with_reducible rfl
    try simp only [Act.put, List.setIfInBounds_toArray, List.set_cons_zero, List.set_cons_succ]
    refine wpAnyH_take (i := 23) (oi := ⟨_, _, _, _, _, _⟩) (v := ?_) rfl (by kernel_rfl) (by kernel_rfl) (by kernel_rfl) (fun _ _ _ h => h) (Or.inl ⟨by rfl, ?_⟩) (by assumption) ?_
    rotate_left 1
    · intro w hSw
      (try dsimp only at hSw)
      go_simp
      try with_reducible rfl
    try simp only [Act.put, List.setIfInBounds_toArray, List.set_cons_zero, List.set_cons_succ]
    refine wpAnyH_take (i := 24) (oi := ⟨_, _, _, _, _, _⟩) (v := ?_) rfl (by kernel_rfl) (by kernel_rfl) (by kernel_rfl) (fun _ _ _ h => h) (Or.inl ⟨by rfl, ?_⟩) (by assumption) ?_
    rotate_left 1
    · intro w hSw
      (try dsimp only at hSw)
      go_simp
      try with_reducible rfl
    try simp only [Act.put, List.setIfInBounds_toArray, List.set_cons_zero, List.set_cons_succ]
    refine wpAnyH_take (i := 25) (oi := ⟨_, _, _, _, _, _⟩) (v := ?_) rfl (by kernel_rfl) (by kernel_rfl) (by kernel_rfl) (fun _ _ _ h => h) (Or.inl ⟨by rfl, ?_⟩) (by assumption) ?_
    rotate_left 1
    · intro w hSw
      (try dsimp only at hSw)
      go_simp
      try with_reducible rfl
    try simp only [Act.put, List.setIfInBounds_toArray, List.set_cons_zero, List.set_cons_succ]
    refine wpAnyH_take (i := 26) (oi := ⟨_, _, _, _, _, _⟩) (v := ?_) rfl (by kernel_rfl) (by kernel_rfl) (by kernel_rfl) (fun _ _ _ h => h) (Or.inl ⟨by rfl, ?_⟩) (by assumption) ?_
    rotate_left 1
    · intro w hSw
      (try dsimp only at hSw)
      go_simp
      try with_reducible rfl
    try simp only [Act.put, List.setIfInBounds_toArray, List.set_cons_zero, List.set_cons_succ]
    refine wpAnyH_take (i := 27) (oi := ⟨_, _, _, _, _, _⟩) (v := ?_) rfl (by kernel_rfl) (by kernel_rfl) (by kernel_rfl) (fun _ _ _ h => h) (Or.inl ⟨by rfl, ?_⟩) (by assumption) ?_
    rotate_left 1
    · intro w hSw
      (try dsimp only at hSw)
      go_simp
      try with_reducible rfl
    try simp only [Act.put, List.setIfInBounds_toArray, List.set_cons_zero, List.set_cons_succ]
    refine wpAnyH_take (i := 28) (oi := ⟨_, _, _, _, _, _⟩) (v := ?_) rfl (by kernel_rfl) (by kernel_rfl) (by kernel_rfl) (fun _ _ _ h => h) (Or.inl ⟨by rfl, ?_⟩) (by assumption) ?_
    rotate_left 1
    · intro w hSw
      (try dsimp only at hSw)
      go_simp
      try with_reducible rfl
    try simp only [Act.put, List.setIfInBounds_toArray, List.set_cons_zero, List.set_cons_succ]
    refine wpAnyH_take (i := 29) (oi := ⟨_, _, _, _, _, _⟩) (v := undef) rfl (by kernel_rfl) (by kernel_rfl) (by kernel_rfl) (fun _ _ _ h => h) (Or.inr ⟨by rfl, rfl⟩) (by assumption) ?_
    try simp only [Act.put, List.setIfInBounds_toArray, List.set_cons_zero, List.set_cons_succ]
    refine wpAnyH_take (i := 30) (oi := ⟨_, _, _, _, _, _⟩) (v := ?_) rfl (by kernel_rfl) (by kernel_rfl) (by kernel_rfl) (fun _ _ _ h => h) (Or.inl ⟨by rfl, ?_⟩) (by assumption) ?_
    rotate_left 1
    · intro w hSw
      (try dsimp only at hSw)
      go_simp
      try with_reducible rfl
    try simp only [Act.put, List.setIfInBounds_toArray, List.set_cons_zero, List.set_cons_succ]
    refine wpAnyH_take (i := 31) (oi := ⟨_, _, _, _, _, _⟩) (v := ?_) rfl (by kernel_rfl) (by kernel_rfl) (by kernel_rfl) (fun _ _ _ h => h) (Or.inl ⟨by rfl, ?_⟩) (by assumption) ?_
    rotate_left 1
    · intro w hSw
      (try dsimp only at hSw)
      go_simp
      try with_reducible rfl
    try simp only [Act.put, List.setIfInBounds_toArray, List.set_cons_zero, List.set_cons_succ]
    refine wpAnyH_take (i := 32) (oi := ⟨_, _, _, _, _, _⟩) (v := ?_) rfl (by kernel_rfl) (by kernel_rfl) (by kernel_rfl) (fun _ _ _ h => h) (Or.inl ⟨by rfl, ?_⟩) (by assumption) ?_
    rotate_left 1
    · intro w hSw
      (try dsimp only at hSw)
      go_simp
      try with_reducible rfl
    try simp only [Act.put, List.setIfInBounds_toArray, List.set_cons_zero, List.set_cons_succ]
    refine wpAnyH_take (i := 33) (oi := ⟨_, _, _, _, _, _⟩) (v := ?_) rfl (by kernel_rfl) (by kernel_rfl) (by kernel_rfl) (fun _ _ _ h => h) (Or.inl ⟨by rfl, ?_⟩) (by assumption) ?_
    rotate_left 1
    · intro w hSw
      (try dsimp only at hSw)
      go_simp
      try with_reducible rfl
    try simp only [Act.put, List.setIfInBounds_toArray, List.set_cons_zero, List.set_cons_succ]
    refine wpAnyH_take (i := 34) (oi := ⟨_, _, _, _, _, _⟩) (v := ?_) rfl (by kernel_rfl) (by kernel_rfl) (by kernel_rfl) (fun _ _ _ h => h) (Or.inl ⟨by rfl, ?_⟩) (by assumption) ?_
    rotate_left 1
    · intro w hSw
      (try dsimp only at hSw)
      go_simp
      try with_reducible rfl
    try simp only [Act.put, List.setIfInBounds_toArray, List.set_cons_zero, List.set_cons_succ]
    refine wpAnyH_take (i := 35) (oi := ⟨_, _, _, _, _, _⟩) (v := ?_) rfl (by kernel_rfl) (by kernel_rfl) (by kernel_rfl) (fun _ _ _ h => h) (Or.inl ⟨by rfl, ?_⟩) (by assumption) ?_
    rotate_left 1
    · intro w hSw
      (try dsimp only at hSw)
      go_simp
      try with_reducible rfl
    try simp only [Act.put, List.setIfInBounds_toArray, List.set_cons_zero, List.set_cons_succ]
    refine wpAnyH_take (i := 36) (oi := ⟨_, _, _, _, _, _⟩) (v := ?_) rfl (by kernel_rfl) (by kernel_rfl) (by kernel_rfl) (fun _ _ _ h => h) (Or.inl ⟨by rfl, ?_⟩) (by assumption) ?_
    rotate_left 1
    · intro w hSw
      (try dsimp only at hSw)
      go_simp
      try with_reducible rfl
    try simp only [Act.put, List.setIfInBounds_toArray, List.set_cons_zero, List.set_cons_succ]
    refine wpAnyH_done (by kernel_rfl) ?_ _
    go_wp2_with fail
    go_ret
    exact ⟨rfl, E17.out.2.2.2.1.below (Nat.le_refl _) (fun _ h => h.elim)⟩

theorem walk0 (v u : V) (first : Bool) (w : World) : Calls Try.prog 7 #[vv v, vv u, .bool first] w fun e w' => e = .returned (.bool true) ∧ Below w.heap.size w w' := by
  cases first
  · exact go_false v u w
  · exact go_true v u w
end Go.Proofs.Ytieieinaijopnaa.modeJoins
