/-
  The walk of both: an act at the program's set and at the document's keeps them alike. Conditions: both hold the same tasks, at most sixteen, in memory apart.
-/
import Derived.Test.YtabkplmpkdbchaaBoth
namespace Go.Proofs.Ytabkplmpkdbchaa
open Go.RowKit
set_option linter.unusedVariables false

/-- The act's box. -/
def BT (W : World) (p : Nat) (kd n tag at_ : Int) : Prop := W.heap[p]? = some (.cells #[.int .u8 kd, .int .i64 n, .int .u32 tag, .int .u8 at_] 51 (0, 0))
theorem BT.mod {W W' : World} {p : Nat} {kd n tag at_ : Int} {F : Nat → Prop} (h : BT W p kd n tag at_) (hm : Mod F W W') (hF : ¬ F p) : BT W' p kd n tag at_ := hm.heap h hF
theorem BT.drew {W : World} {p : Nat} {kd n tag at_ : Int} (h : BT W p kd n tag at_) : BT W.drew p kd n tag at_ := h
theorem BT.all {W : World} {p : Nat} {kd n tag at_ : Int} (h : BT W p kd n tag at_) : W.cell? ⟨p, 1, none⟩ = some (.int .i64 n) ∧ W.cell? ⟨p, 2, none⟩ = some (.int .u32 tag) := by
  constructor <;> (rw [cell_of_row W p _ _ 51 (0, 0) h]; rfl)
theorem BT.three {W : World} {p : Nat} {kd n tag at_ : Int} (h : BT W p kd n tag at_) : W.cell? ⟨p, 1, none⟩ = some (.int .i64 n) ∧ W.cell? ⟨p, 2, none⟩ = some (.int .u32 tag) ∧ W.cell? ⟨p, 3, none⟩ = some (.int .u8 at_) := by
  refine ⟨?_, ?_, ?_⟩ <;> (rw [cell_of_row W p _ _ 51 (0, 0) h]; rfl)
section
variable {B : Nat} {E : Nat → Prop} {b c : Nat} {w W : World} {l l' m m' : List T} {a a2 : Int}
theorem PT.drew (h : PT B E b c w W l a m a2) : PT B E b c w W.drew l a m a2 := h.quiet ((Mod.refl _ W).drew)
/-- A box is put beside. -/
theorem PT.boxed (h : PT B (fun _ => False) b c w W l a m a2) (o : Obj) : PT B (fun k => k = W.heap.size) b c w (W.alloc o) l a m a2 :=
  (h.fresh (v := .slice (some ⟨W.heap.size, 0, none⟩) 0 0) ((Mod.refl _ W).alloc o) (fun k hk => by
    have : W.heap.size = k := by simpa [Value.ownBlock] using hk
    subst this
    simp)).less (by rintro k rfl; right; simp [Value.ownBlock])
theorem PT.bare (h : PT B E b c w W l a m a2) : PT B (fun _ => False) b c w W l a m a2 := h.less (by simp)
end

set_option maxRecDepth 100000 in
set_option maxHeartbeats 4000000 in
theorem both0 (B b c : Nat) (w W : World) (l : List T) (a kd n tag at_ : Int) (h : PT B (fun _ => False) b c w W l a l a) (hl : Okl l) (g0 : 0 ≤ kd) (g1 : kd ≤ 255) (g2 : 0 ≤ tag) (g3 : tag ≤ 4294967295) (g4 : 0 ≤ at_) (g5 : at_ ≤ 255) (hd : kd % 8 = 0) :
    Calls Try.prog 23 #[.pointer (some ⟨b, 0, none⟩), .pointer (some ⟨c, 0, none⟩), .agg #[.int .u8 kd, .int .i64 n, .int .u32 tag, .int .u8 at_]] W fun e W' => e = .returned (.bool true) ∧ PT B (fun _ => False) b c w W' (act l a kd n tag at_).1 (act l a kd n tag at_).2 (act l a kd n tag at_).1 (act l a kd n tag at_).2 := by
  have hmod : kd.tmod 8 = 0 := by rw [← hd]; exact Int.tmod_eq_emod_of_nonneg g0
  have hp0 := h.boxed (.cells #[.int .u8 kd, .int .i64 n, .int .u32 tag, .int .u8 at_] 51)
  have hb0 : BT (W.alloc (.cells #[.int .u8 kd, .int .i64 n, .int .u32 tag, .int .u8 at_] 51)) W.heap.size kd n tag at_ := heap_alloc_new _ _
  have hact : act l a kd n tag at_ = ((ent l a ⟨n, tag, at_, false⟩).2.2, a) := by rw [act, if_pos hd]
  rw [hact]
  clear hact
  have hbd := ent_bound l a ⟨n, tag, at_, false⟩
  have k1 : ∀ W1, PT B (fun k => k = W.heap.size) b c w W1 l a l a → _ := fun W1 h1 => h1.stepS (fun F hs => enter_some b ⟨n, tag, at_, tag % 2 == 0⟩ l a F W1 hl.1 hs)
  have k2 : ∀ W1, PT B (fun k => k = W.heap.size) b c w W1 (ent l a ⟨n, tag, at_, false⟩).2.2 a l a → _ := fun W1 h1 => h1.stepR (fun G hr => renter_some c ⟨n, tag, at_, false⟩ l a G W1 hl.1 hr)
  simp only [ent_st l a n tag at_ (tag % 2 == 0)] at k1
  generalize ent l a ⟨n, tag, at_, false⟩ = r at *
  obtain ⟨s1, e1, l1⟩ := r
  dsimp only at *
  obtain ⟨hbd1, hbd2⟩ := hbd
  replace hp0 := hide hp0
  replace hb0 := hide hb0
  replace hl := hide hl
  clear h
  replace k1 := hide k1
  replace k2 := hide k2
  replace hd := hide hd
  go_enter Try.func23, Try.ntmps23
  go_wp2_with (first
    | (go_at_call 12; (with_reducible refine (k1.out _ hp0.out).mono ?_); rintro e w1 ⟨rfl, hp1, m1⟩
       obtain ⟨q1, q2, q3⟩ := (hb0.out.mod m1 (by simp)).three
       replace hp1 := hide hp1; replace m1 := hide m1)
    | (go_at_call 33; (with_reducible refine (k2.out _ hp1.out).mono ?_); rintro e w2 ⟨rfl, hp2, m2⟩))
  go_ret
  exact ⟨rfl, hp2.bare⟩

set_option maxRecDepth 100000 in
set_option maxHeartbeats 4000000 in
theorem both1 (B b c : Nat) (w W : World) (l : List T) (a kd n tag at_ : Int) (h : PT B (fun _ => False) b c w W l a l a) (hl : Okl l) (g0 : 0 ≤ kd) (g1 : kd ≤ 255) (g2 : 0 ≤ tag) (g3 : tag ≤ 4294967295) (g4 : 0 ≤ at_) (g5 : at_ ≤ 255) (hd : kd % 8 = 1) :
    Calls Try.prog 23 #[.pointer (some ⟨b, 0, none⟩), .pointer (some ⟨c, 0, none⟩), .agg #[.int .u8 kd, .int .i64 n, .int .u32 tag, .int .u8 at_]] W fun e W' => e = .returned (.bool true) ∧ PT B (fun _ => False) b c w W' (act l a kd n tag at_).1 (act l a kd n tag at_).2 (act l a kd n tag at_).1 (act l a kd n tag at_).2 := by
  have hmod : kd.tmod 8 = 1 := by rw [← hd]; exact Int.tmod_eq_emod_of_nonneg g0
  have hp0 := h.boxed (.cells #[.int .u8 kd, .int .i64 n, .int .u32 tag, .int .u8 at_] 51)
  have hb0 : BT (W.alloc (.cells #[.int .u8 kd, .int .i64 n, .int .u32 tag, .int .u8 at_] 51)) W.heap.size kd n tag at_ := heap_alloc_new _ _
  have hact : act l a kd n tag at_ = ((sta l a n tag).2, a) := by rw [act, if_neg (by rw [hd]; decide), if_pos hd]
  rw [hact]
  clear hact
  have k1 : ∀ W1, PT B (fun k => k = W.heap.size) b c w W1 l a l a → _ := fun W1 h1 => h1.stepS (fun F hs => start_some b n tag l a F W1 (Nat.le_trans hl.1 (by decide)) hs)
  have k2 : ∀ W1, PT B (fun k => k = W.heap.size) b c w W1 (sta l a n tag).2 a l a → _ := fun W1 h1 => h1.stepR (fun G hr => rstart_some c n tag l a G W1 (Nat.le_trans hl.1 (by decide)) hr)
  generalize sta l a n tag = r at *
  obtain ⟨e1, l1⟩ := r
  dsimp only at *
  replace hp0 := hide hp0
  replace hb0 := hide hb0
  replace hl := hide hl
  clear h
  replace k1 := hide k1
  replace k2 := hide k2
  replace hd := hide hd
  go_enter Try.func23, Try.ntmps23
  go_wp2_with fail
  go_region_held3 (fun w' => w'.cell? ⟨W.heap.size, 1, none⟩ = some (.int .i64 n) ∧ w'.cell? ⟨W.heap.size, 2, none⟩ = some (.int .u32 tag))
    (first | exact hb0.out.all | exact hb0.out.drew.all | exact hb1.out.all | exact hb2.out.all)
    (first
    | (go_at_call 17; (with_reducible refine (k1.out _ hp0.out.drew).mono ?_); rintro e w1 ⟨rfl, hp1, m1⟩
       have hb1 := hide (hb0.out.drew.mod m1 (by simp))
       replace hp1 := hide hp1; replace m1 := hide m1)
    | (go_at_call 34; (with_reducible refine (k2.out _ hp1.out).mono ?_); rintro e w2 ⟨rfl, hp2, m2⟩
       have hb2 := hide (hb1.out.mod m2 (by simp))
       replace hp2 := hide hp2; replace m2 := hide m2))
  all_goals
    go_wp2_with fail
    go_ret
    exact ⟨rfl, hp2.out.bare⟩

set_option maxRecDepth 100000 in
set_option maxHeartbeats 4000000 in
theorem both2 (B b c : Nat) (w W : World) (l : List T) (a kd n tag at_ : Int) (h : PT B (fun _ => False) b c w W l a l a) (hl : Okl l) (g0 : 0 ≤ kd) (g1 : kd ≤ 255) (g2 : 0 ≤ tag) (g3 : tag ≤ 4294967295) (g4 : 0 ≤ at_) (g5 : at_ ≤ 255) (hd : kd % 8 = 2) :
    Calls Try.prog 23 #[.pointer (some ⟨b, 0, none⟩), .pointer (some ⟨c, 0, none⟩), .agg #[.int .u8 kd, .int .i64 n, .int .u32 tag, .int .u8 at_]] W fun e W' => e = .returned (.bool true) ∧ PT B (fun _ => False) b c w W' (act l a kd n tag at_).1 (act l a kd n tag at_).2 (act l a kd n tag at_).1 (act l a kd n tag at_).2 := by
  have hmod : kd.tmod 8 = 2 := by rw [← hd]; exact Int.tmod_eq_emod_of_nonneg g0
  have hp0 := h.boxed (.cells #[.int .u8 kd, .int .i64 n, .int .u32 tag, .int .u8 at_] 51)
  have hb0 : BT (W.alloc (.cells #[.int .u8 kd, .int .i64 n, .int .u32 tag, .int .u8 at_] 51)) W.heap.size kd n tag at_ := heap_alloc_new _ _
  have hact : act l a kd n tag at_ = ((fin l n tag).2, a) := by rw [act, if_neg (by rw [hd]; decide), if_neg (by rw [hd]; decide), if_pos hd]
  rw [hact]
  clear hact
  have k1 : ∀ W1, PT B (fun k => k = W.heap.size) b c w W1 l a l a → _ := fun W1 h1 => h1.stepS (fun F hs => end_some b n tag l a F W1 (Nat.le_trans hl.1 (by decide)) hs)
  have k2 : ∀ W1, PT B (fun k => k = W.heap.size) b c w W1 (fin l n tag).2 a l a → _ := fun W1 h1 => h1.stepR (fun G hr => rend_some c n tag l a G W1 (Nat.le_trans hl.1 (by decide)) hr)
  generalize fin l n tag = r at *
  obtain ⟨e1, l1⟩ := r
  dsimp only at *
  replace hp0 := hide hp0
  replace hb0 := hide hb0
  replace hl := hide hl
  clear h
  replace k1 := hide k1
  replace k2 := hide k2
  replace hd := hide hd
  go_enter Try.func23, Try.ntmps23
  go_wp2_with fail
  go_region_held3 (fun w' => w'.cell? ⟨W.heap.size, 1, none⟩ = some (.int .i64 n) ∧ w'.cell? ⟨W.heap.size, 2, none⟩ = some (.int .u32 tag))
    (first | exact hb0.out.all | exact hb0.out.drew.all | exact hb1.out.all | exact hb2.out.all)
    (first
    | (go_at_call 18; (with_reducible refine (k1.out _ hp0.out.drew).mono ?_); rintro e w1 ⟨rfl, hp1, m1⟩
       have hb1 := hide (hb0.out.drew.mod m1 (by simp))
       replace hp1 := hide hp1; replace m1 := hide m1)
    | (go_at_call 35; (with_reducible refine (k2.out _ hp1.out).mono ?_); rintro e w2 ⟨rfl, hp2, m2⟩
       have hb2 := hide (hb1.out.mod m2 (by simp))
       replace hp2 := hide hp2; replace m2 := hide m2))
  all_goals
    go_wp2_with fail
    go_ret
    exact ⟨rfl, hp2.out.bare⟩

set_option maxRecDepth 100000 in
set_option maxHeartbeats 4000000 in
theorem both3 (B b c : Nat) (w W : World) (l : List T) (a kd n tag at_ : Int) (h : PT B (fun _ => False) b c w W l a l a) (hl : Okl l) (g0 : 0 ≤ kd) (g1 : kd ≤ 255) (g2 : 0 ≤ tag) (g3 : tag ≤ 4294967295) (g4 : 0 ≤ at_) (g5 : at_ ≤ 255) (hd : kd % 8 = 3) :
    Calls Try.prog 23 #[.pointer (some ⟨b, 0, none⟩), .pointer (some ⟨c, 0, none⟩), .agg #[.int .u8 kd, .int .i64 n, .int .u32 tag, .int .u8 at_]] W fun e W' => e = .returned (.bool true) ∧ PT B (fun _ => False) b c w W' (act l a kd n tag at_).1 (act l a kd n tag at_).2 (act l a kd n tag at_).1 (act l a kd n tag at_).2 := by
  have hmod : kd.tmod 8 = 3 := by rw [← hd]; exact Int.tmod_eq_emod_of_nonneg g0
  have hp0 := h.boxed (.cells #[.int .u8 kd, .int .i64 n, .int .u32 tag, .int .u8 at_] 51)
  have hb0 : BT (W.alloc (.cells #[.int .u8 kd, .int .i64 n, .int .u32 tag, .int .u8 at_] 51)) W.heap.size kd n tag at_ := heap_alloc_new _ _
  have hact : act l a kd n tag at_ = (l.filter fun t => !hit n tag t, a) := by rw [act, if_neg (by rw [hd]; decide), if_neg (by rw [hd]; decide), if_neg (by rw [hd]; decide), if_pos hd]
  rw [hact]
  clear hact
  have k1 : ∀ W1, PT B (fun k => k = W.heap.size) b c w W1 l a l a → Calls Try.prog _ _ W1 _ := fun W1 h1 => h1.goneS (fun F hs => abort_some b n tag l a F W1 (Nat.le_trans hl.1 (by decide)) hs)
  have k2 : ∀ W1 E1, PT B E1 b c w W1 (l.filter fun t => !hit n tag t) a l a → Calls Try.prog _ _ W1 _ := fun W1 E1 h1 => h1.goneR (fun G hr => rdrop0 c n tag l a G W1 (Nat.le_trans hl.1 (by decide)) hr)
  obtain ⟨g, hg⟩ : ∃ g, g = l.filter (hit n tag) := ⟨_, rfl⟩
  obtain ⟨l1, hl1⟩ : ∃ l1, l1 = (l.filter fun t => !hit n tag t) := ⟨_, rfl⟩
  rw [← hg, ← hl1] at k1
  rw [← hg, ← hl1] at k2
  rw [← hl1]
  have hgb : Okl g := by rw [hg]; exact filter_ok hl _
  clear hg hl1
  obtain ⟨gl, hgl⟩ : ∃ gl, gl = g.length := ⟨_, rfl⟩
  replace hgl := hide hgl
  replace hgb := hide hgb
  replace hp0 := hide hp0
  replace hb0 := hide hb0
  replace hl := hide hl
  clear h
  replace k1 := hide k1
  replace k2 := hide k2
  replace hd := hide hd
  go_enter Try.func23, Try.ntmps23
  go_wp2_with fail
  go_region_held3 (fun w' => w'.cell? ⟨W.heap.size, 1, none⟩ = some (.int .i64 n) ∧ w'.cell? ⟨W.heap.size, 2, none⟩ = some (.int .u32 tag))
    (first | exact hb0.out.all | exact hb0.out.drew.all | exact hb1.out.all | exact hb2.out.all | exact hb3.out.all)
    (first
    | (go_at_call 36; (with_reducible refine (k1.out _ hp0.out.drew).mono ?_); rintro e w1 ⟨v1, rfl, r1, hp1, m1⟩
       obtain ⟨A1, c1, hv1, -, -⟩ := r1.slice
       rw [← hgl.out] at hv1
       have hb1 := hide (hb0.out.drew.mod m1 (by simp))
       subst hv1
       replace r1 := hide r1; replace hp1 := hide hp1; replace m1 := hide m1)
    | (go_at_call 37; (with_reducible refine (k2.out _ _ hp1.out).mono ?_); rintro e w2 ⟨v2, rfl, r2, hp2, m2⟩
       obtain ⟨A2, c2, hv2, -, -⟩ := r2.slice
       rw [← hgl.out] at hv2
       have hb2 := hide (hb1.out.mod m2 (by simp))
       have r12 := r1.out.mod m2 (fun j hj he => he (.inr hj))
       subst hv2
       have hsame := same_yes A1 A2 gl c1 c2 g w2 (r12.rd enc_len rfl) (r2.rd encR_len rfl) hgb.out.2 (by have := hgb.out.1; have := hgl.out; omega)
       clear r12 r2
       replace hsame := hide hsame; replace hp2 := hide hp2; replace m2 := hide m2)
    | (go_at_call 24; (with_reducible refine hsame.out.mono ?_); rintro e w3 ⟨rfl, m3⟩
       have hb3 := hide (hb2.out.mod m3 (by simp))
       have hp3 := hide (hp2.out.quiet m3)
       replace m3 := hide m3))
  all_goals
    go_wp2_with fail
    go_ret
    exact ⟨rfl, hp3.out.bare⟩

set_option maxRecDepth 100000 in
set_option maxHeartbeats 4000000 in
theorem both4 (B b c : Nat) (w W : World) (l : List T) (a kd n tag at_ : Int) (h : PT B (fun _ => False) b c w W l a l a) (hl : Okl l) (g0 : 0 ≤ kd) (g1 : kd ≤ 255) (g2 : 0 ≤ tag) (g3 : tag ≤ 4294967295) (g4 : 0 ≤ at_) (g5 : at_ ≤ 255) (hd : kd % 8 = 4) :
    Calls Try.prog 23 #[.pointer (some ⟨b, 0, none⟩), .pointer (some ⟨c, 0, none⟩), .agg #[.int .u8 kd, .int .i64 n, .int .u32 tag, .int .u8 at_]] W fun e W' => e = .returned (.bool true) ∧ PT B (fun _ => False) b c w W' (act l a kd n tag at_).1 (act l a kd n tag at_).2 (act l a kd n tag at_).1 (act l a kd n tag at_).2 := by
  have hmod : kd.tmod 8 = 4 := by rw [← hd]; exact Int.tmod_eq_emod_of_nonneg g0
  have hp0 := h.boxed (.cells #[.int .u8 kd, .int .i64 n, .int .u32 tag, .int .u8 at_] 51)
  have hb0 : BT (W.alloc (.cells #[.int .u8 kd, .int .i64 n, .int .u32 tag, .int .u8 at_] 51)) W.heap.size kd n tag at_ := heap_alloc_new _ _
  have hact : act l a kd n tag at_ = (l.filter fun t => !pNx n t, a) := by rw [act, if_neg (by rw [hd]; decide), if_neg (by rw [hd]; decide), if_neg (by rw [hd]; decide), if_neg (by rw [hd]; decide), if_pos hd]
  rw [hact]
  clear hact
  have k1 : ∀ W1, PT B (fun k => k = W.heap.size) b c w W1 l a l a → Calls Try.prog _ _ W1 _ := fun W1 h1 => h1.goneS (fun F hs => abortAll_some b n l a F W1 (Nat.le_trans hl.1 (by decide)) hs)
  have k2 : ∀ W1 E1, PT B E1 b c w W1 (l.filter fun t => !pNx n t) a l a → Calls Try.prog _ _ W1 _ := fun W1 E1 h1 => h1.goneR (fun G hr => rdrop1 c n 0 l a G W1 (Nat.le_trans hl.1 (by decide)) hr)
  obtain ⟨g, hg⟩ : ∃ g, g = l.filter (pNx n) := ⟨_, rfl⟩
  obtain ⟨l1, hl1⟩ : ∃ l1, l1 = (l.filter fun t => !pNx n t) := ⟨_, rfl⟩
  rw [← hg, ← hl1] at k1
  rw [← hg, ← hl1] at k2
  rw [← hl1]
  have hgb : Okl g := by rw [hg]; exact filter_ok hl _
  clear hg hl1
  obtain ⟨gl, hgl⟩ : ∃ gl, gl = g.length := ⟨_, rfl⟩
  replace hgl := hide hgl
  replace hgb := hide hgb
  replace hp0 := hide hp0
  replace hb0 := hide hb0
  replace hl := hide hl
  clear h
  replace k1 := hide k1
  replace k2 := hide k2
  replace hd := hide hd
  go_enter Try.func23, Try.ntmps23
  go_wp2_with fail
  go_region_held3 (fun w' => w'.cell? ⟨W.heap.size, 1, none⟩ = some (.int .i64 n) ∧ w'.cell? ⟨W.heap.size, 2, none⟩ = some (.int .u32 tag))
    (first | exact hb0.out.all | exact hb0.out.drew.all | exact hb1.out.all | exact hb2.out.all | exact hb3.out.all)
    (first
    | (go_at_call 13; (with_reducible refine (k1.out _ hp0.out.drew).mono ?_); rintro e w1 ⟨v1, rfl, r1, hp1, m1⟩
       obtain ⟨A1, c1, hv1, -, -⟩ := r1.slice
       rw [← hgl.out] at hv1
       have hb1 := hide (hb0.out.drew.mod m1 (by simp))
       subst hv1
       replace r1 := hide r1; replace hp1 := hide hp1; replace m1 := hide m1)
    | (go_at_call 37; (with_reducible refine (k2.out _ _ hp1.out).mono ?_); rintro e w2 ⟨v2, rfl, r2, hp2, m2⟩
       obtain ⟨A2, c2, hv2, -, -⟩ := r2.slice
       rw [← hgl.out] at hv2
       have hb2 := hide (hb1.out.mod m2 (by simp))
       have r12 := r1.out.mod m2 (fun j hj he => he (.inr hj))
       subst hv2
       have hsame := same_yes A1 A2 gl c1 c2 g w2 (r12.rd enc_len rfl) (r2.rd encR_len rfl) hgb.out.2 (by have := hgb.out.1; have := hgl.out; omega)
       clear r12 r2
       replace hsame := hide hsame; replace hp2 := hide hp2; replace m2 := hide m2)
    | (go_at_call 24; (with_reducible refine hsame.out.mono ?_); rintro e w3 ⟨rfl, m3⟩
       have hb3 := hide (hb2.out.mod m3 (by simp))
       have hp3 := hide (hp2.out.quiet m3)
       replace m3 := hide m3))
  all_goals
    go_wp2_with fail
    go_ret
    exact ⟨rfl, hp3.out.bare⟩

set_option maxRecDepth 100000 in
set_option maxHeartbeats 4000000 in
theorem both5 (B b c : Nat) (w W : World) (l : List T) (a kd n tag at_ : Int) (h : PT B (fun _ => False) b c w W l a l a) (hl : Okl l) (g0 : 0 ≤ kd) (g1 : kd ≤ 255) (g2 : 0 ≤ tag) (g3 : tag ≤ 4294967295) (g4 : 0 ≤ at_) (g5 : at_ ≤ 255) (hd : kd % 8 = 5) :
    Calls Try.prog 23 #[.pointer (some ⟨b, 0, none⟩), .pointer (some ⟨c, 0, none⟩), .agg #[.int .u8 kd, .int .i64 n, .int .u32 tag, .int .u8 at_]] W fun e W' => e = .returned (.bool true) ∧ PT B (fun _ => False) b c w W' (act l a kd n tag at_).1 (act l a kd n tag at_).2 (act l a kd n tag at_).1 (act l a kd n tag at_).2 := by
  have hmod : kd.tmod 8 = 5 := by rw [← hd]; exact Int.tmod_eq_emod_of_nonneg g0
  have hp0 := h.boxed (.cells #[.int .u8 kd, .int .i64 n, .int .u32 tag, .int .u8 at_] 51)
  have hb0 : BT (W.alloc (.cells #[.int .u8 kd, .int .i64 n, .int .u32 tag, .int .u8 at_] 51)) W.heap.size kd n tag at_ := heap_alloc_new _ _
  have hact : act l a kd n tag at_ = ([], -1) := by rw [act, if_neg (by rw [hd]; decide), if_neg (by rw [hd]; decide), if_neg (by rw [hd]; decide), if_neg (by rw [hd]; decide), if_neg (by rw [hd]; decide), if_pos hd]
  rw [hact]
  clear hact
  obtain ⟨A0, cap0, x0, x1, x2, -, x4⟩ := hp0.cells
  have hp5 := hp0.setAca (-1)
  have hb5 : BT ((W.alloc (.cells #[.int .u8 kd, .int .i64 n, .int .u32 tag, .int .u8 at_] 51)).setCell ⟨c, 1, none⟩ (.int .i64 (-1))) W.heap.size kd n tag at_ := hb0.mod ((Mod.refl (fun k => k = c) _).setCell (p := ⟨c, 1, none⟩) (.inl rfl) _) (by
    obtain ⟨_, _, _, _, _, _, hG, _⟩ := id h
    have hc := h.cells
    obtain ⟨_, _, _, _, _, _, hlt⟩ := hc
    omega)
  have k1 : ∀ W1, PT B (fun k => k = W.heap.size) b c w W1 l a l (-1) → Calls Try.prog _ _ W1 _ := fun W1 h1 => h1.goneS (fun F hs => clear_some b l a F W1 (Nat.le_trans hl.1 (by decide)) hs)
  have k2 : ∀ W1 E1, PT B E1 b c w W1 (l.filter fun t => !pAll t) (-1) l (-1) → Calls Try.prog _ _ W1 _ := fun W1 E1 h1 => h1.goneR (fun G hr => rdrop2 c 0 0 l (-1) G W1 (Nat.le_trans hl.1 (by decide)) hr)
  have ef : (l.filter fun t => !pAll t) = [] := by simp [pAll]
  rw [ef] at k1
  rw [ef] at k2
  obtain ⟨g, hg⟩ : ∃ g, g = l.filter pAll := ⟨_, rfl⟩
  rw [← hg] at k1
  rw [← hg] at k2
  have hgb : Okl g := by rw [hg]; exact filter_ok hl _
  obtain ⟨gl, hgl⟩ : ∃ gl, gl = g.length := ⟨_, rfl⟩
  replace hgl := hide hgl
  replace hgb := hide hgb
  clear hg
  replace hp0 := hide hp0
  replace hb0 := hide hb0
  replace hl := hide hl
  clear h
  replace k1 := hide k1
  replace k2 := hide k2
  replace hd := hide hd
  replace hp5 := hide hp5
  replace hb5 := hide hb5
  go_enter Try.func23, Try.ntmps23
  go_wp2_with (first
    | (go_at_call 14; (with_reducible refine (k1.out _ hp5.out).mono ?_); rintro e w1 ⟨v1, rfl, r1, hp1, m1⟩
       obtain ⟨A1, c1, hv1, -, -⟩ := r1.slice
       rw [← hgl.out] at hv1
       have hb1 := hide (hb5.out.mod m1 (by simp))
       subst hv1
       replace r1 := hide r1; replace hp1 := hide hp1; replace m1 := hide m1)
    | (go_at_call 37; (with_reducible refine (k2.out _ _ hp1.out).mono ?_); rintro e w2 ⟨v2, rfl, r2, hp2, m2⟩
       obtain ⟨A2, c2, hv2, -, -⟩ := r2.slice
       rw [← hgl.out] at hv2
       have hb2 := hide (hb1.out.mod m2 (by simp))
       have r12 := r1.out.mod m2 (fun j hj he => he (.inr hj))
       subst hv2
       have hsame := same_yes A1 A2 gl c1 c2 g w2 (r12.rd enc_len rfl) (r2.rd encR_len rfl) hgb.out.2 (by have := hgb.out.1; have := hgl.out; omega)
       clear r12 r2
       replace hsame := hide hsame; replace hp2 := hide hp2; replace m2 := hide m2)
    | (go_at_call 24; (with_reducible refine hsame.out.mono ?_); rintro e w3 ⟨rfl, m3⟩
       have hb3 := hide (hb2.out.mod m3 (by simp))
       have hp3 := hide (hp2.out.quiet m3)
       replace m3 := hide m3))
  go_ret
  exact ⟨rfl, hp3.out.bare⟩

set_option maxRecDepth 100000 in
set_option maxHeartbeats 4000000 in
theorem both6a (B b c : Nat) (w W : World) (l : List T) (a kd n tag at_ : Int) (h : PT B (fun _ => False) b c w W l a l a) (hl : Okl l) (g0 : 0 ≤ kd) (g1 : kd ≤ 255) (g2 : 0 ≤ tag) (g3 : tag ≤ 4294967295) (g4 : 0 ≤ at_) (g5 : at_ ≤ 255) (hd : kd % 8 = 6) (hn : n < 0) :
    Calls Try.prog 23 #[.pointer (some ⟨b, 0, none⟩), .pointer (some ⟨c, 0, none⟩), .agg #[.int .u8 kd, .int .i64 n, .int .u32 tag, .int .u8 at_]] W fun e W' => e = .returned (.bool true) ∧ PT B (fun _ => False) b c w W' (act l a kd n tag at_).1 (act l a kd n tag at_).2 (act l a kd n tag at_).1 (act l a kd n tag at_).2 := by
  have hmod : kd.tmod 8 = 6 := by rw [← hd]; exact Int.tmod_eq_emod_of_nonneg g0
  have hp0 := h.boxed (.cells #[.int .u8 kd, .int .i64 n, .int .u32 tag, .int .u8 at_] 51)
  have hb0 : BT (W.alloc (.cells #[.int .u8 kd, .int .i64 n, .int .u32 tag, .int .u8 at_] 51)) W.heap.size kd n tag at_ := heap_alloc_new _ _
  have hest : est a n = (1, a) := by rw [est]; rw [if_pos (.inl hn)]
  have hact : act l a kd n tag at_ = (l, (est a n).2) := by rw [act, if_neg (by rw [hd]; decide), if_neg (by rw [hd]; decide), if_neg (by rw [hd]; decide), if_neg (by rw [hd]; decide), if_neg (by rw [hd]; decide), if_neg (by rw [hd]; decide), if_pos hd]
  rw [hact, hest]
  clear hact
  obtain ⟨A0, cap0, x0, x1, x2, -, x4⟩ := hp0.cells
  have k1 : ∀ W1, PT B (fun k => k = W.heap.size) b c w W1 l a l a → Calls Try.prog 19 #[.pointer (some ⟨b, 0, none⟩), .int .i64 n] W1 fun e W' => e = .returned (.int .i64 (est a n).1) ∧ PT B (fun k => k = W.heap.size) b c w W' l (est a n).2 l a ∧ Mod (fun k => ¬ k = W.heap.size) W1 W' := fun W1 h1 => h1.stepS (fun F hs => (establish_some b n l a F W1 hs).mono fun e W' ⟨h1, h2, h3⟩ => ⟨h1, h2.mono fun _ hk => .inl hk, h3⟩)
  rw [hest] at k1
  clear hest
  have d1 : decide (n < 0) = true := by simpa using hn
  replace hp0 := hide hp0
  replace hb0 := hide hb0
  replace hl := hide hl
  clear h
  replace k1 := hide k1
  replace hd := hide hd
  go_enter Try.func23, Try.ntmps23
  go_wp2_with (first
    | (go_at_call 19; (with_reducible refine (k1.out _ hp0.out).mono ?_); rintro e w1 ⟨rfl, hp1, m1⟩
       obtain ⟨q1, q2⟩ := (hb0.out.mod m1 (by simp)).all
       obtain ⟨A1, cap1, y0, y1, y2, -, y4⟩ := hp1.cells
       replace hp1 := hide hp1; replace m1 := hide m1))
  go_ret
  exact ⟨rfl, hp1.out.bare⟩

set_option maxRecDepth 100000 in
set_option maxHeartbeats 4000000 in
theorem both6b (B b c : Nat) (w W : World) (l : List T) (a kd n tag at_ : Int) (h : PT B (fun _ => False) b c w W l a l a) (hl : Okl l) (g0 : 0 ≤ kd) (g1 : kd ≤ 255) (g2 : 0 ≤ tag) (g3 : tag ≤ 4294967295) (g4 : 0 ≤ at_) (g5 : at_ ≤ 255) (hd : kd % 8 = 6) (hn0 : 0 ≤ n) (hn : 8 ≤ n) :
    Calls Try.prog 23 #[.pointer (some ⟨b, 0, none⟩), .pointer (some ⟨c, 0, none⟩), .agg #[.int .u8 kd, .int .i64 n, .int .u32 tag, .int .u8 at_]] W fun e W' => e = .returned (.bool true) ∧ PT B (fun _ => False) b c w W' (act l a kd n tag at_).1 (act l a kd n tag at_).2 (act l a kd n tag at_).1 (act l a kd n tag at_).2 := by
  have hmod : kd.tmod 8 = 6 := by rw [← hd]; exact Int.tmod_eq_emod_of_nonneg g0
  have hp0 := h.boxed (.cells #[.int .u8 kd, .int .i64 n, .int .u32 tag, .int .u8 at_] 51)
  have hb0 : BT (W.alloc (.cells #[.int .u8 kd, .int .i64 n, .int .u32 tag, .int .u8 at_] 51)) W.heap.size kd n tag at_ := heap_alloc_new _ _
  have hest : est a n = (1, a) := by rw [est]; rw [if_pos (.inr hn)]
  have hact : act l a kd n tag at_ = (l, (est a n).2) := by rw [act, if_neg (by rw [hd]; decide), if_neg (by rw [hd]; decide), if_neg (by rw [hd]; decide), if_neg (by rw [hd]; decide), if_neg (by rw [hd]; decide), if_neg (by rw [hd]; decide), if_pos hd]
  rw [hact, hest]
  clear hact
  obtain ⟨A0, cap0, x0, x1, x2, -, x4⟩ := hp0.cells
  have k1 : ∀ W1, PT B (fun k => k = W.heap.size) b c w W1 l a l a → Calls Try.prog 19 #[.pointer (some ⟨b, 0, none⟩), .int .i64 n] W1 fun e W' => e = .returned (.int .i64 (est a n).1) ∧ PT B (fun k => k = W.heap.size) b c w W' l (est a n).2 l a ∧ Mod (fun k => ¬ k = W.heap.size) W1 W' := fun W1 h1 => h1.stepS (fun F hs => (establish_some b n l a F W1 hs).mono fun e W' ⟨h1, h2, h3⟩ => ⟨h1, h2.mono fun _ hk => .inl hk, h3⟩)
  rw [hest] at k1
  clear hest
  have d1 : decide (n < 0) = false := by simp; omega
  have d2 : decide (7 < n) = true := by simp; omega
  replace hp0 := hide hp0
  replace hb0 := hide hb0
  replace hl := hide hl
  clear h
  replace k1 := hide k1
  replace hd := hide hd
  go_enter Try.func23, Try.ntmps23
  go_wp2_with (first
    | (go_at_call 19; (with_reducible refine (k1.out _ hp0.out).mono ?_); rintro e w1 ⟨rfl, hp1, m1⟩
       obtain ⟨q1, q2⟩ := (hb0.out.mod m1 (by simp)).all
       obtain ⟨A1, cap1, y0, y1, y2, -, y4⟩ := hp1.cells
       replace hp1 := hide hp1; replace m1 := hide m1))
  go_ret
  exact ⟨rfl, hp1.out.bare⟩

set_option maxRecDepth 100000 in
set_option maxHeartbeats 4000000 in
theorem both6c (B b c : Nat) (w W : World) (l : List T) (a kd n tag at_ : Int) (h : PT B (fun _ => False) b c w W l a l a) (hl : Okl l) (g0 : 0 ≤ kd) (g1 : kd ≤ 255) (g2 : 0 ≤ tag) (g3 : tag ≤ 4294967295) (g4 : 0 ≤ at_) (g5 : at_ ≤ 255) (hd : kd % 8 = 6) (hn0 : 0 ≤ n) (hn : n < 8) (ha : 0 ≤ a) :
    Calls Try.prog 23 #[.pointer (some ⟨b, 0, none⟩), .pointer (some ⟨c, 0, none⟩), .agg #[.int .u8 kd, .int .i64 n, .int .u32 tag, .int .u8 at_]] W fun e W' => e = .returned (.bool true) ∧ PT B (fun _ => False) b c w W' (act l a kd n tag at_).1 (act l a kd n tag at_).2 (act l a kd n tag at_).1 (act l a kd n tag at_).2 := by
  have hmod : kd.tmod 8 = 6 := by rw [← hd]; exact Int.tmod_eq_emod_of_nonneg g0
  have hp0 := h.boxed (.cells #[.int .u8 kd, .int .i64 n, .int .u32 tag, .int .u8 at_] 51)
  have hb0 : BT (W.alloc (.cells #[.int .u8 kd, .int .i64 n, .int .u32 tag, .int .u8 at_] 51)) W.heap.size kd n tag at_ := heap_alloc_new _ _
  have hest : est a n = (12, a) := by rw [est]; rw [if_neg (by omega), if_pos ha]
  have hact : act l a kd n tag at_ = (l, (est a n).2) := by rw [act, if_neg (by rw [hd]; decide), if_neg (by rw [hd]; decide), if_neg (by rw [hd]; decide), if_neg (by rw [hd]; decide), if_neg (by rw [hd]; decide), if_neg (by rw [hd]; decide), if_pos hd]
  rw [hact, hest]
  clear hact
  obtain ⟨A0, cap0, x0, x1, x2, -, x4⟩ := hp0.cells
  have k1 : ∀ W1, PT B (fun k => k = W.heap.size) b c w W1 l a l a → Calls Try.prog 19 #[.pointer (some ⟨b, 0, none⟩), .int .i64 n] W1 fun e W' => e = .returned (.int .i64 (est a n).1) ∧ PT B (fun k => k = W.heap.size) b c w W' l (est a n).2 l a ∧ Mod (fun k => ¬ k = W.heap.size) W1 W' := fun W1 h1 => h1.stepS (fun F hs => (establish_some b n l a F W1 hs).mono fun e W' ⟨h1, h2, h3⟩ => ⟨h1, h2.mono fun _ hk => .inl hk, h3⟩)
  rw [hest] at k1
  clear hest
  have d1 : decide (n < 0) = false := by simp; omega
  have d2 : decide (7 < n) = false := by simp; omega
  have d3 : decide (0 ≤ a) = true := by simpa using ha
  replace hp0 := hide hp0
  replace hb0 := hide hb0
  replace hl := hide hl
  clear h
  replace k1 := hide k1
  replace hd := hide hd
  go_enter Try.func23, Try.ntmps23
  go_wp2_with (first
    | (go_at_call 19; (with_reducible refine (k1.out _ hp0.out).mono ?_); rintro e w1 ⟨rfl, hp1, m1⟩
       obtain ⟨q1, q2⟩ := (hb0.out.mod m1 (by simp)).all
       obtain ⟨A1, cap1, y0, y1, y2, -, y4⟩ := hp1.cells
       replace hp1 := hide hp1; replace m1 := hide m1))
  go_ret
  exact ⟨rfl, hp1.out.bare⟩

set_option maxRecDepth 100000 in
set_option maxHeartbeats 4000000 in
theorem both6d (B b c : Nat) (w W : World) (l : List T) (a kd n tag at_ : Int) (h : PT B (fun _ => False) b c w W l a l a) (hl : Okl l) (g0 : 0 ≤ kd) (g1 : kd ≤ 255) (g2 : 0 ≤ tag) (g3 : tag ≤ 4294967295) (g4 : 0 ≤ at_) (g5 : at_ ≤ 255) (hd : kd % 8 = 6) (hn0 : 0 ≤ n) (hn : n < 8) (ha : a < 0) :
    Calls Try.prog 23 #[.pointer (some ⟨b, 0, none⟩), .pointer (some ⟨c, 0, none⟩), .agg #[.int .u8 kd, .int .i64 n, .int .u32 tag, .int .u8 at_]] W fun e W' => e = .returned (.bool true) ∧ PT B (fun _ => False) b c w W' (act l a kd n tag at_).1 (act l a kd n tag at_).2 (act l a kd n tag at_).1 (act l a kd n tag at_).2 := by
  have hmod : kd.tmod 8 = 6 := by rw [← hd]; exact Int.tmod_eq_emod_of_nonneg g0
  have hp0 := h.boxed (.cells #[.int .u8 kd, .int .i64 n, .int .u32 tag, .int .u8 at_] 51)
  have hb0 : BT (W.alloc (.cells #[.int .u8 kd, .int .i64 n, .int .u32 tag, .int .u8 at_] 51)) W.heap.size kd n tag at_ := heap_alloc_new _ _
  have hest : est a n = (0, n) := by rw [est]; rw [if_neg (by omega), if_neg (by omega)]
  have hact : act l a kd n tag at_ = (l, (est a n).2) := by rw [act, if_neg (by rw [hd]; decide), if_neg (by rw [hd]; decide), if_neg (by rw [hd]; decide), if_neg (by rw [hd]; decide), if_neg (by rw [hd]; decide), if_neg (by rw [hd]; decide), if_pos hd]
  rw [hact, hest]
  clear hact
  obtain ⟨A0, cap0, x0, x1, x2, -, x4⟩ := hp0.cells
  have k1 : ∀ W1, PT B (fun k => k = W.heap.size) b c w W1 l a l a → Calls Try.prog 19 #[.pointer (some ⟨b, 0, none⟩), .int .i64 n] W1 fun e W' => e = .returned (.int .i64 (est a n).1) ∧ PT B (fun k => k = W.heap.size) b c w W' l (est a n).2 l a ∧ Mod (fun k => ¬ k = W.heap.size) W1 W' := fun W1 h1 => h1.stepS (fun F hs => (establish_some b n l a F W1 hs).mono fun e W' ⟨h1, h2, h3⟩ => ⟨h1, h2.mono fun _ hk => .inl hk, h3⟩)
  rw [hest] at k1
  clear hest
  have d1 : decide (n < 0) = false := by simp; omega
  have d2 : decide (7 < n) = false := by simp; omega
  have d3 : decide (0 ≤ a) = false := by simpa using ha
  replace hp0 := hide hp0
  replace hb0 := hide hb0
  replace hl := hide hl
  clear h
  replace k1 := hide k1
  replace hd := hide hd
  go_enter Try.func23, Try.ntmps23
  go_wp2_with (first
    | (go_at_call 19; (with_reducible refine (k1.out _ hp0.out).mono ?_); rintro e w1 ⟨rfl, hp1, m1⟩
       obtain ⟨q1, q2⟩ := (hb0.out.mod m1 (by simp)).all
       obtain ⟨A1, cap1, y0, y1, y2, -, y4⟩ := hp1.cells
       have hp2 := hide (hp1.setAca n)
       replace hp1 := hide hp1; replace m1 := hide m1))
  go_ret
  exact ⟨rfl, hp2.out.bare⟩

set_option maxRecDepth 100000 in
set_option maxHeartbeats 4000000 in
theorem both7a (B b c : Nat) (w W : World) (l : List T) (a kd n tag at_ : Int) (h : PT B (fun _ => False) b c w W l a l a) (hl : Okl l) (g0 : 0 ≤ kd) (g1 : kd ≤ 255) (g2 : 0 ≤ tag) (g3 : tag ≤ 4294967295) (g4 : 0 ≤ at_) (g5 : at_ ≤ 255) (hd : kd % 8 = 7) (ha : a < 0) :
    Calls Try.prog 23 #[.pointer (some ⟨b, 0, none⟩), .pointer (some ⟨c, 0, none⟩), .agg #[.int .u8 kd, .int .i64 n, .int .u32 tag, .int .u8 at_]] W fun e W' => e = .returned (.bool true) ∧ PT B (fun _ => False) b c w W' (act l a kd n tag at_).1 (act l a kd n tag at_).2 (act l a kd n tag at_).1 (act l a kd n tag at_).2 := by
  have hmod : kd.tmod 8 = 7 := by rw [← hd]; exact Int.tmod_eq_emod_of_nonneg g0
  have hp0 := h.boxed (.cells #[.int .u8 kd, .int .i64 n, .int .u32 tag, .int .u8 at_] 51)
  have hb0 : BT (W.alloc (.cells #[.int .u8 kd, .int .i64 n, .int .u32 tag, .int .u8 at_] 51)) W.heap.size kd n tag at_ := heap_alloc_new _ _
  have hact : act l a kd n tag at_ = (l, a) := by rw [act, if_neg (by rw [hd]; decide), if_neg (by rw [hd]; decide), if_neg (by rw [hd]; decide), if_neg (by rw [hd]; decide), if_neg (by rw [hd]; decide), if_neg (by rw [hd]; decide), if_neg (by rw [hd]; decide), if_pos ha, if_pos ha]
  rw [hact]
  clear hact
  obtain ⟨A0, cap0, x0, x1, x2, -, x4⟩ := hp0.cells
  have k1 : Calls Try.prog 21 #[.pointer (some ⟨b, 0, none⟩)] (W.alloc (.cells #[.int .u8 kd, .int .i64 n, .int .u32 tag, .int .u8 at_] 51)) fun e W' => e = .returned (.slice none 0 0) ∧ (W.alloc (.cells #[.int .u8 kd, .int .i64 n, .int .u32 tag, .int .u8 at_] 51)) = W' := by
    obtain ⟨F, G, hs, _⟩ := hp0
    exact relieve_no b l a F _ hs ha
  have d1 : decide (a < 0) = true := by simpa using ha
  replace hp0 := hide hp0
  replace hb0 := hide hb0
  replace hl := hide hl
  clear h
  replace k1 := hide k1
  replace hd := hide hd
  go_enter Try.func23, Try.ntmps23
  go_wp2_with (first
    | (go_at_call 21; (with_reducible refine k1.out.mono ?_); rintro e w1 ⟨rfl, rfl⟩))
  go_ret
  exact ⟨rfl, hp0.out.bare⟩

set_option maxRecDepth 100000 in
set_option maxHeartbeats 4000000 in
theorem both7b (B b c : Nat) (w W : World) (l : List T) (a kd n tag at_ : Int) (h : PT B (fun _ => False) b c w W l a l a) (hl : Okl l) (g0 : 0 ≤ kd) (g1 : kd ≤ 255) (g2 : 0 ≤ tag) (g3 : tag ≤ 4294967295) (g4 : 0 ≤ at_) (g5 : at_ ≤ 255) (hd : kd % 8 = 7) (ha : 0 ≤ a) :
    Calls Try.prog 23 #[.pointer (some ⟨b, 0, none⟩), .pointer (some ⟨c, 0, none⟩), .agg #[.int .u8 kd, .int .i64 n, .int .u32 tag, .int .u8 at_]] W fun e W' => e = .returned (.bool true) ∧ PT B (fun _ => False) b c w W' (act l a kd n tag at_).1 (act l a kd n tag at_).2 (act l a kd n tag at_).1 (act l a kd n tag at_).2 := by
  have hmod : kd.tmod 8 = 7 := by rw [← hd]; exact Int.tmod_eq_emod_of_nonneg g0
  have hp0 := h.boxed (.cells #[.int .u8 kd, .int .i64 n, .int .u32 tag, .int .u8 at_] 51)
  have hb0 : BT (W.alloc (.cells #[.int .u8 kd, .int .i64 n, .int .u32 tag, .int .u8 at_] 51)) W.heap.size kd n tag at_ := heap_alloc_new _ _
  have hact : act l a kd n tag at_ = (l.filter fun t => !pAca t, -1) := by rw [act, if_neg (by rw [hd]; decide), if_neg (by rw [hd]; decide), if_neg (by rw [hd]; decide), if_neg (by rw [hd]; decide), if_neg (by rw [hd]; decide), if_neg (by rw [hd]; decide), if_neg (by rw [hd]; decide), if_neg (by omega), if_neg (by omega)]
  rw [hact]
  clear hact
  obtain ⟨A0, cap0, x0, x1, x2, -, x4⟩ := hp0.cells
  have hp5 := hp0.setAca (-1)
  have hb5 : BT ((W.alloc (.cells #[.int .u8 kd, .int .i64 n, .int .u32 tag, .int .u8 at_] 51)).setCell ⟨c, 1, none⟩ (.int .i64 (-1))) W.heap.size kd n tag at_ := hb0.mod ((Mod.refl (fun k => k = c) _).setCell (p := ⟨c, 1, none⟩) (.inl rfl) _) (by
    obtain ⟨_, _, _, _, _, _, hlt⟩ := h.cells
    omega)
  have d1 : decide (a < 0) = false := by simpa using ha
  have k1 : ∀ W1, PT B (fun k => k = W.heap.size) b c w W1 l a l (-1) → Calls Try.prog _ _ W1 _ := fun W1 h1 => h1.goneS (fun F hs => relieve_some b l a F W1 (Nat.le_trans hl.1 (by decide)) hs ha)
  have k2 : ∀ W1 E1, PT B E1 b c w W1 (l.filter fun t => !pAca t) (-1) l (-1) → Calls Try.prog _ _ W1 _ := fun W1 E1 h1 => h1.goneR (fun G hr => rdrop3 c 0 0 l (-1) G W1 (Nat.le_trans hl.1 (by decide)) hr)
  obtain ⟨g, hg⟩ : ∃ g, g = l.filter pAca := ⟨_, rfl⟩
  obtain ⟨l1, hl1⟩ : ∃ l1, l1 = (l.filter fun t => !pAca t) := ⟨_, rfl⟩
  rw [← hg, ← hl1] at k1
  rw [← hg, ← hl1] at k2
  rw [← hl1]
  have hgb : Okl g := by rw [hg]; exact filter_ok hl _
  clear hg hl1
  obtain ⟨gl, hgl⟩ : ∃ gl, gl = g.length := ⟨_, rfl⟩
  replace hgl := hide hgl
  replace hgb := hide hgb
  replace hp0 := hide hp0
  replace hb0 := hide hb0
  replace hl := hide hl
  clear h
  replace k1 := hide k1
  replace k2 := hide k2
  replace hd := hide hd
  replace hp5 := hide hp5
  replace hb5 := hide hb5
  go_enter Try.func23, Try.ntmps23
  go_wp2_with (first
    | (go_at_call 21; (with_reducible refine (k1.out _ hp5.out).mono ?_); rintro e w1 ⟨v1, rfl, r1, hp1, m1⟩
       obtain ⟨A1, c1, hv1, -, -⟩ := r1.slice
       rw [← hgl.out] at hv1
       have hb1 := hide (hb5.out.mod m1 (by simp))
       subst hv1
       replace r1 := hide r1; replace hp1 := hide hp1; replace m1 := hide m1)
    | (go_at_call 37; (with_reducible refine (k2.out _ _ hp1.out).mono ?_); rintro e w2 ⟨v2, rfl, r2, hp2, m2⟩
       obtain ⟨A2, c2, hv2, -, -⟩ := r2.slice
       rw [← hgl.out] at hv2
       have hb2 := hide (hb1.out.mod m2 (by simp))
       have r12 := r1.out.mod m2 (fun j hj he => he (.inr hj))
       subst hv2
       have hsame := same_yes A1 A2 gl c1 c2 g w2 (r12.rd enc_len rfl) (r2.rd encR_len rfl) hgb.out.2 (by have := hgb.out.1; have := hgl.out; omega)
       clear r12 r2
       replace hsame := hide hsame; replace hp2 := hide hp2; replace m2 := hide m2)
    | (go_at_call 24; (with_reducible refine hsame.out.mono ?_); rintro e w3 ⟨rfl, m3⟩
       have hb3 := hide (hb2.out.mod m3 (by simp))
       have hp3 := hide (hp2.out.quiet m3)
       replace m3 := hide m3))
  go_ret
  exact ⟨rfl, hp3.out.bare⟩

theorem both_yes (B b c : Nat) (w W : World) (l : List T) (a kd n tag at_ : Int) (h : PT B (fun _ => False) b c w W l a l a) (hl : Okl l) (g0 : 0 ≤ kd) (g1 : kd ≤ 255) (g2 : 0 ≤ tag) (g3 : tag ≤ 4294967295) (g4 : 0 ≤ at_) (g5 : at_ ≤ 255) :
    Calls Try.prog 23 #[.pointer (some ⟨b, 0, none⟩), .pointer (some ⟨c, 0, none⟩), .agg #[.int .u8 kd, .int .i64 n, .int .u32 tag, .int .u8 at_]] W fun e W' => e = .returned (.bool true) ∧ PT B (fun _ => False) b c w W' (act l a kd n tag at_).1 (act l a kd n tag at_).2 (act l a kd n tag at_).1 (act l a kd n tag at_).2 := by
  have h8 : kd % 8 = 0 ∨ kd % 8 = 1 ∨ kd % 8 = 2 ∨ kd % 8 = 3 ∨ kd % 8 = 4 ∨ kd % 8 = 5 ∨ kd % 8 = 6 ∨ kd % 8 = 7 := by omega
  rcases h8 with hd | hd | hd | hd | hd | hd | hd | hd
  · exact both0 B b c w W l a kd n tag at_ h hl g0 g1 g2 g3 g4 g5 hd
  · exact both1 B b c w W l a kd n tag at_ h hl g0 g1 g2 g3 g4 g5 hd
  · exact both2 B b c w W l a kd n tag at_ h hl g0 g1 g2 g3 g4 g5 hd
  · exact both3 B b c w W l a kd n tag at_ h hl g0 g1 g2 g3 g4 g5 hd
  · exact both4 B b c w W l a kd n tag at_ h hl g0 g1 g2 g3 g4 g5 hd
  · exact both5 B b c w W l a kd n tag at_ h hl g0 g1 g2 g3 g4 g5 hd
  · by_cases h1 : n < 0
    · exact both6a B b c w W l a kd n tag at_ h hl g0 g1 g2 g3 g4 g5 hd h1
    · by_cases h2 : 8 ≤ n
      · exact both6b B b c w W l a kd n tag at_ h hl g0 g1 g2 g3 g4 g5 hd (by omega) h2
      · by_cases h3 : 0 ≤ a
        · exact both6c B b c w W l a kd n tag at_ h hl g0 g1 g2 g3 g4 g5 hd (by omega) (by omega) h3
        · exact both6d B b c w W l a kd n tag at_ h hl g0 g1 g2 g3 g4 g5 hd (by omega) (by omega) (by omega)
  · by_cases h3 : a < 0
    · exact both7a B b c w W l a kd n tag at_ h hl g0 g1 g2 g3 g4 g5 hd h3
    · exact both7b B b c w W l a kd n tag at_ h hl g0 g1 g2 g3 g4 g5 hd (by omega)
end Go.Proofs.Ytabkplmpkdbchaa
