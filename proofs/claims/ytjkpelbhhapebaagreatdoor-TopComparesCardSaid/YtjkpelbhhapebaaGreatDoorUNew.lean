/-
  unit.New, walked. Conditions: the name u, 32 blocks, a serial, a type of protection.
-/
import Derived.Test.YtjkpelbhhapebaaGreatDoorLoad0
namespace Go.Proofs.YtjkpelbhhapebaaGreatDoor
open Go.RowKit
open W (Nxt)
set_option maxRecDepth 100000
def uName : ByteArray := ⟨#[117]⟩
abbrev cfA (prot : Int) : Array Value := #[.string uE, .string uE, .string uE, .string uS, .int .u8 prot, .int .i64 32]
theorem vv_any (v : M.V) (w : World) : Calls Tryz.prog 37 #[.agg #[.bool v.a, .bool v.b, .bool v.c]] w fun e w' => ∃ p, e = .returned (.pointer (some ⟨p, 0, none⟩)) ∧ M.PG w' p v v ∧ Mod (fun _ => False) w w' ∧ w.heap.size ≤ p := M.new_any v w
/-- A new unit. -/
def us0 (prot : Int) (bd : Nat) (x : Wx) : US := ⟨prot, true, x, bd, fun _ => [], tb0, ⟨true, false, false⟩, ⟨true, false, false⟩, false, -1, 0, 0⟩
theorem Q.typed {w : World} {b : Nat} {L : Nat → List Int} {F : Nat → Prop} (h : A.Q w b L F) : A.Q w b L (fun k => F k ∧ ∃ cs t, w.heap[k]? = some (.cells cs t (0, 0)) ∧ (t = 149 ∨ t = 30)) := by
  obtain ⟨cs, h1, h2, h3, h4⟩ := h
  refine ⟨cs, h1, h2, ⟨h3, cs, 149, h1, .inl rfl⟩, fun i hi => ?_⟩
  obtain ⟨k1, k2, v, k3, k4, k5⟩ := h4 i hi
  refine ⟨k1, k2, v, k3, k4, fun k hk => ⟨k5 k hk, ?_⟩⟩
  rcases k4.2 with ⟨rfl, -⟩ | ⟨g, cap, cur, rfl, -, hh, -⟩
  · simp [Value.ownBlock] at hk
  · simp only [Value.ownBlock, Option.some.injEq] at hk
    subst hk
    exact ⟨_, 30, hh, .inr rfl⟩
theorem plus_lo {W0 X w : World} {b : Nat} {L : Nat → List Int} (hq : A.Q w b L (Plus (fun _ => False) X w)) (h : W0.heap.size ≤ X.heap.size) : A.Q w b L (fun k => W0.heap.size ≤ k ∧ k < w.heap.size) :=
  hq.mono fun k hk => by
    rcases hk with hk | hk
    · exact hk.elim
    · exact ⟨Nat.le_trans h hk.1, hk.2⟩
theorem ne_type {w : World} {i j : Nat} {cs ds : Array Value} {s t : TypeId} (h : w.heap[i]? = some (.cells cs s (0, 0))) (k : w.heap[j]? = some (.cells ds t (0, 0))) (hn : s ≠ t) : i ≠ j := by
  rintro rfl
  rw [h] at k
  injection k with k
  injection k with _ k _
  exact hn k
theorem unew_fin (B bd wb p kp pg tb qb dv : Nat) (prot : Int) (x : Wx) (F Fq : Nat → Prop) (w Y : World) (hW : WU B w wb bd x F) (hB : B ≤ w.heap.size) (mY : Mod (fun _ => False) w Y) (hst : ST Y p wb sd true) (hsl : SL Y kp wb sp false (-1) 0) (hpg : M.PG Y pg ⟨true, false, false⟩ ⟨true, false, false⟩)
    (htb : TB Y tb (.slice none 0 0) tb0) (hq : A.Q Y qb (fun _ => []) Fq) (hFq : ∀ k, Fq k → w.heap.size ≤ k ∧ k < Y.heap.size) (hdv : DV Y dv p prot) (b1 : w.heap.size ≤ p) (b2 : w.heap.size ≤ kp) (b3 : w.heap.size ≤ pg) (b4 : w.heap.size ≤ tb) (b5 : w.heap.size ≤ dv) :
    ∃ c a, a.u = Y.heap.size ∧ a.wb = wb ∧ UN B c (Y.alloc (.cells (uA ⟨Y.heap.size, dv, p, wb, qb, tb, pg, kp⟩ prot 0 0 0) 99)) a (us0 prot bd x) 0 ∧ Mod (fun _ => False) w (Y.alloc (.cells (uA ⟨Y.heap.size, dv, p, wb, qb, tb, pg, kp⟩ prot 0 0 0) 99)) ∧ ∀ k, k < w.heap.size → c k ≠ 0 → F k := by
  classical
  obtain ⟨G, hG⟩ : ∃ G : Nat → Prop, G = fun k => Fq k ∧ ∃ cs t, Y.heap[k]? = some (.cells cs t (0, 0)) ∧ (t = 149 ∨ t = 30) := ⟨_, rfl⟩
  have hq' : A.Q Y qb (fun _ => []) G := by rw [hG]; exact Q.typed hq
  have hGn : ∀ {i : Nat} {cs : Array Value} {t : TypeId}, Y.heap[i]? = some (.cells cs t (0, 0)) → t ≠ 149 → t ≠ 30 → ¬ G i := fun {i cs t} hi n1 n2 g => by
    rw [hG] at g
    obtain ⟨-, ds, s, h1, h2⟩ := g
    have := ne_type hi h1 (by rcases h2 with rfl | rfl <;> assumption)
    exact this rfl
  have sp' := (Array.getElem?_eq_some_iff.1 hst).1
  have skp := (Array.getElem?_eq_some_iff.1 hsl).1
  have spg := hpg.lt
  have stb := (Array.getElem?_eq_some_iff.1 htb).1
  have sdv := hdv.lt
  have n1 : p ≠ kp := ne_type hst hsl (by decide)
  have n2 : p ≠ pg := ne_type hst hpg (by decide)
  have n3 : p ≠ tb := ne_type hst htb (by decide)
  have n4 : p ≠ dv := ne_type hst hdv (by decide)
  have n5 : kp ≠ pg := ne_type hsl hpg (by decide)
  have n6 : kp ≠ tb := ne_type hsl htb (by decide)
  have n7 : kp ≠ dv := ne_type hsl hdv (by decide)
  have n8 : pg ≠ tb := ne_type hpg htb (by decide)
  have n9 : pg ≠ dv := ne_type hpg hdv (by decide)
  have n10 : tb ≠ dv := ne_type htb hdv (by decide)
  have g1 : ¬ G p := hGn hst (by decide) (by decide)
  have g2 : ¬ G kp := hGn hsl (by decide) (by decide)
  have g3 : ¬ G pg := hGn hpg (by decide) (by decide)
  have g4 : ¬ G tb := hGn htb (by decide) (by decide)
  have g5 : ¬ G dv := hGn hdv (by decide) (by decide)
  have hGb : ∀ k, G k → w.heap.size ≤ k ∧ k < Y.heap.size := fun k hk => by
    rw [hG] at hk
    exact hFq k hk.1
  have hYs := mY.size
  have ma : Mod (fun _ => False) Y (Y.alloc (.cells (uA ⟨Y.heap.size, dv, p, wb, qb, tb, pg, kp⟩ prot 0 0 0) 99)) := (Mod.refl _ Y).alloc _
  obtain ⟨c, hc⟩ : ∃ c : Nat → Nat, c = fun k => if k < w.heap.size then (if F k then 1 else 0) else if k = p then 6 else if k = kp then 5 else if k = pg then 4 else if k = tb then 3 else if k = dv then 7 else if k = Y.heap.size then 8 else if G k then 2 else 0 := ⟨_, rfl⟩
  have cold : ∀ k, ¬ k < w.heap.size → c k = if k = p then 6 else if k = kp then 5 else if k = pg then 4 else if k = tb then 3 else if k = dv then 7 else if k = Y.heap.size then 8 else if G k then 2 else 0 := fun k hk => by
    rw [hc]
    exact if_neg hk
  have cw : ∀ k, k < w.heap.size → c k = if F k then 1 else 0 := fun k hk => by
    rw [hc]
    exact if_pos hk
  clear hc
  have eF : ∀ k, F k → c k = 1 := fun k hk => by rw [cw k (hW.bound k hk).2, if_pos hk]
  have eG : ∀ k, G k → c k = 2 := fun k hk => by
    have := hGb k hk
    rw [cold k (by omega), if_neg (fun e : k = p => g1 (e ▸ hk)), if_neg (fun e : k = kp => g2 (e ▸ hk)), if_neg (fun e : k = pg => g3 (e ▸ hk)), if_neg (fun e : k = tb => g4 (e ▸ hk)), if_neg (fun e : k = dv => g5 (e ▸ hk)), if_neg (by omega), if_pos hk]
  have q1 : c p = 6 := by rw [cold p (by omega), if_pos rfl]
  have q2 : c kp = 5 := by rw [cold kp (by omega), if_neg n1.symm, if_pos rfl]
  have q3 : c pg = 4 := by rw [cold pg (by omega), if_neg n2.symm, if_neg n5.symm, if_pos rfl]
  have q4 : c tb = 3 := by rw [cold tb (by omega), if_neg n3.symm, if_neg n6.symm, if_neg n8.symm, if_pos rfl]
  have q5 : c dv = 7 := by rw [cold dv (by omega), if_neg n4.symm, if_neg n7.symm, if_neg n9.symm, if_neg n10.symm, if_pos rfl]
  have q6 : c Y.heap.size = 8 := by rw [cold _ (by omega), if_neg (by omega), if_neg (by omega), if_neg (by omega), if_neg (by omega), if_neg (by omega), if_pos rfl]
  have q7 : ∀ k, Y.heap.size + 1 ≤ k → c k = 0 := fun k hk => by
    rw [cold _ (by omega), if_neg (by omega), if_neg (by omega), if_neg (by omega), if_neg (by omega), if_neg (by omega), if_neg (by omega), if_neg (fun h => by have := (hGb k h).2; omega)]
  refine ⟨c, ⟨Y.heap.size, dv, p, wb, qb, tb, pg, kp⟩, rfl, rfl, ?_, mY.trans ma (fun _ _ h => h), fun k hk hn => ?_⟩
  · exact {
      wu := ⟨F, hW.mod (mY.trans ma (fun _ _ h => h)) (fun _ _ h => h), eF⟩
      qu := ⟨G, hq'.mod ma (fun _ _ h => h), fun k hk => ⟨eG k hk, Nat.le_trans hB (hGb k hk).1, Nat.lt_of_lt_of_le (hGb k hk).2 ma.size⟩⟩
      tbl := ⟨fun k => k = tb, ⟨_, ma.heap htb (fun h => h), Row.nil _ _ _ _, by simp [Value.ownBlock], rfl, by simp [Value.ownBlock]⟩, fun k hk => by
        subst hk
        exact ⟨q4, Nat.le_trans hB b4, Nat.lt_of_lt_of_le stb ma.size⟩⟩
      pgs := ⟨hpg.mod ma (fun h => h), q3, Nat.le_trans hB b3⟩
      slo := ⟨ma.heap hsl (fun h => h), q2, Nat.le_trans hB b2⟩
      sto := ⟨hst.mod ma (fun h => h), q1, Nat.le_trans hB b1⟩
      dev := ⟨hdv.mod ma (fun h => h), q5, Nat.le_trans hB b5⟩
      own := ⟨⟨0, heap_alloc_new _ _⟩, q6, Nat.le_trans hB hYs⟩
      sup := fun k hk => q7 k (by simpa using hk)
      big := Nat.le_trans hB (Nat.le_trans hYs ma.size) }
  · by_cases h : F k
    · exact h
    · rw [cw k hk, if_neg h] at hn
      exact absurd rfl hn
set_option maxHeartbeats 8000000 in
theorem unew_in (B bd wb : Nat) (prot : Int) (x : Wx) (F : Nat → Prop) (w : World) (hW : WU B w wb bd x F) (hp : 0 ≤ prot ∧ prot ≤ 3) :
    Calls Tryz.prog 18 #[.pointer (some ⟨wb, 0, none⟩), .string uName, .agg (cfA prot)] w fun e w' => ∃ c a, e = .returned (.tuple #[.pointer (some ⟨a.u, 0, none⟩), .int .i64 0]) ∧ a.wb = wb ∧ UN B c w' a (us0 prot bd x) 0 ∧ Mod (fun _ => False) w w' ∧ ∀ k, k < w.heap.size → c k ≠ 0 → F k := by
  have hBs : B ≤ w.heap.size := by
    obtain ⟨d, N, h, -⟩ := hW
    exact h.2.2
  have hfo := fun w => form_any prot w hp
  have hde := fun w => M.default_any w
  have hso := fun w => stopen_any wb sd true w (by decide) (by decide)
  have hsl := fun w => slopen_any wb sp w (by decide) (by decide)
  have hmn := fun w => vv_any ⟨true, false, false⟩ w
  have hpn := fun w => prnew_any w
  have hqn := fun w => A.new_any w
  have m1 : Mod (fun _ => False) w (w.alloc (.cells (cfA prot) 71)) := (Mod.refl _ w).alloc _
  have hcf : (w.alloc (.cells (cfA prot) 71)).heap[w.heap.size]? = some (.cells (cfA prot) 71 (0, 0)) := heap_alloc_new _ _
  have e1 : (uName ++ ⟨#[46, 100]⟩) = sd := by rfl
  have e2 : (uName ++ ⟨#[46, 112]⟩) = sp := by rfl
  have z1 : uName.size = 1 := by rfl
  have hcs : ∀ W, Mod (fun _ => False) (w.alloc (.cells (cfA prot) 71)) W → W.cell? ⟨w.heap.size, 0, none⟩ = some (.string uE) ∧ W.cell? ⟨w.heap.size, 1, none⟩ = some (.string uE) ∧ W.cell? ⟨w.heap.size, 2, none⟩ = some (.string uE) ∧ W.cell? ⟨w.heap.size, 3, none⟩ = some (.string uS) ∧ W.cell? ⟨w.heap.size, 4, none⟩ = some (.int .u8 prot) ∧ W.cell? ⟨w.heap.size, 5, none⟩ = some (.int .i64 32) := fun W m => by
    have h := m.heap hcf (fun h => h)
    refine ⟨?_, ?_, ?_, ?_, ?_, ?_⟩ <;> rw [cell_of_row W _ _ _ 71 (0, 0) h] <;> rfl
  generalize uName = nm at *
  replace hfo := hide hfo; replace hde := hide hde; replace hso := hide hso; replace hsl := hide hsl; replace hmn := hide hmn; replace hpn := hide hpn; replace hqn := hide hqn; replace hcf := hide hcf; replace hcs := hide hcs; replace m1 := hide m1; replace hW := hide hW
  have hf0 := M.field0 true false false
  go_enter Tryz.func18, Tryz.ntmps18
  go_wp2_with (go_at_call 33; (with_reducible refine (hfo.out _).mono ?_); rintro e w2 ⟨rfl, m2⟩
               have M2 := m1.out.trans m2 (fun _ _ h => h)
               have M12 := m2
               replace m2 := hide m2; replace M2 := hide M2; replace M12 := hide M12)
  have hcs2 := fun W (m : Mod (fun _ => False) w2 W) => hcs.out W (m2.out.trans m (fun _ _ h => h))
  have C2 := hcs2 w2 (Mod.refl _ _)
  replace hcs2 := hide hcs2
  have C2h := hide C2
  go_region_held3 (fun w' => w'.cell? ⟨w.heap.size, 5, none⟩ = some (.int .i64 32))
    (first | exact (hcs2.out _ ((Mod.refl _ w2).drew)).2.2.2.2.2 | exact (hcs2.out _ M23.out).2.2.2.2.2 | exact (hcs2.out _ M24.out).2.2.2.2.2)
    (first
    | (go_at_call 35; (with_reducible refine (hde.out _).mono ?_); rintro e w3 ⟨rfl, m3⟩
       have M23 := ((Mod.refl (fun _ => False) w2).drew).trans m3 (fun _ _ h => h)
       replace M23 := hide M23; replace m3 := hide m3)
    | (go_at_call 34; (with_reducible refine (hso.out _).mono ?_); rintro e w4 ⟨p, rfl, hst, m4, hp4, hz4⟩
       have M24 := M23.out.trans m4 (fun _ _ h => h)
       replace M24 := hide M24; replace m4 := hide m4; replace hst := hide hst; replace hp4 := hide hp4; replace hz4 := hide hz4))
  go_wp2_with (go_at_call 36; (with_reducible refine (hsl.out _).mono ?_); rintro e w5 ⟨kp, rfl, hslo, m5, hp5, hz5⟩
               have M25 := M24.out.trans m5 (fun _ _ h => h)
               replace M25 := hide M25; replace m5 := hide m5; replace hslo := hide hslo; replace hp5 := hide hp5; replace hz5 := hide hz5)
  have hcs5 := fun W (m : Mod (fun _ => False) w5 W) => hcs2.out W (M25.out.trans m (fun _ _ h => h))
  clear C2 hf0
  have C5 := hcs5 w5 (Mod.refl _ _)
  replace hcs5 := hide hcs5; replace C5 := hide C5
  go_region_held3 (fun w' => w'.cell? ⟨w.heap.size, 0, none⟩ = some (.string uE) ∧ w'.cell? ⟨w.heap.size, 1, none⟩ = some (.string uE) ∧ w'.cell? ⟨w.heap.size, 2, none⟩ = some (.string uE) ∧ w'.cell? ⟨w.heap.size, 3, none⟩ = some (.string uS) ∧ w'.cell? ⟨w.heap.size, 4, none⟩ = some (.int .u8 prot) ∧ w'.cell? ⟨w.heap.size, 5, none⟩ = some (.int .i64 32))
    ((refine hcs5.out _ ?_; (repeat (first | (with_reducible exact Mod.refl _ _) | (with_reducible exact M56.out) | (with_reducible exact M57.out) | (with_reducible exact M58.out) | (with_reducible exact M59.out) | (with_reducible refine Mod.drew ?_) | (with_reducible refine Mod.alloc ?_ _)))))
    (first
    | (go_at_call 35; (with_reducible refine (hde.out _).mono ?_); rintro e w6 ⟨rfl, m6⟩
       have M56 : Mod (fun _ => False) w5 w6 := (by refine Mod.trans ?_ m6 (fun _ _ h => h); (repeat (first | (with_reducible exact Mod.refl _ _) | (with_reducible exact M56.out) | (with_reducible exact M57.out) | (with_reducible exact M58.out) | (with_reducible exact M59.out) | (with_reducible refine Mod.drew ?_) | (with_reducible refine Mod.alloc ?_ _))))
       replace M56 := hide M56; replace m6 := hide m6)
    | (go_at_call 37; (with_reducible refine (hmn.out _).mono ?_); rintro e w7 ⟨pg, rfl, hpg, m7, hpg7⟩
       have M57 : Mod (fun _ => False) w5 w7 := (by refine Mod.trans ?_ m7 (fun _ _ h => h); (repeat (first | (with_reducible exact Mod.refl _ _) | (with_reducible exact M56.out) | (with_reducible exact M57.out) | (with_reducible exact M58.out) | (with_reducible exact M59.out) | (with_reducible refine Mod.drew ?_) | (with_reducible refine Mod.alloc ?_ _))))
       have x7 : w6.heap.size ≤ pg := Nat.le_trans (Mod.size (F := fun _ => False) (by (repeat (first | (with_reducible exact Mod.refl _ _) | (with_reducible refine Mod.drew ?_) | (with_reducible refine Mod.alloc ?_ _))))) hpg7
       have M67 : Mod (fun _ => False) w6 w7 := (by refine Mod.trans ?_ m7 (fun _ _ h => h); (repeat (first | (with_reducible exact Mod.refl _ _) | (with_reducible refine Mod.drew ?_) | (with_reducible refine Mod.alloc ?_ _))))
       have l7 := hpg.lt
       replace M67 := hide M67; replace M57 := hide M57; replace m7 := hide m7; replace hpg := hide hpg; replace hpg7 := hide hpg7)
    | (go_at_call 38; (with_reducible refine (hpn.out _).mono ?_); rintro e w8 ⟨tb, rfl, htb, m8, htb8, hz8⟩
       have M58 : Mod (fun _ => False) w5 w8 := (by refine Mod.trans ?_ m8 (fun _ _ h => h); (repeat (first | (with_reducible exact Mod.refl _ _) | (with_reducible exact M56.out) | (with_reducible exact M57.out) | (with_reducible exact M58.out) | (with_reducible exact M59.out) | (with_reducible refine Mod.drew ?_) | (with_reducible refine Mod.alloc ?_ _))))
       have x8 : w7.heap.size ≤ tb := by rw [htb8]; exact Mod.size (F := fun _ => False) (by (repeat (first | (with_reducible exact Mod.refl _ _) | (with_reducible refine Mod.drew ?_) | (with_reducible refine Mod.alloc ?_ _))))
       have M78 : Mod (fun _ => False) w7 w8 := (by refine Mod.trans ?_ m8 (fun _ _ h => h); (repeat (first | (with_reducible exact Mod.refl _ _) | (with_reducible refine Mod.drew ?_) | (with_reducible refine Mod.alloc ?_ _))))
       replace M78 := hide M78; replace M58 := hide M58; replace m8 := hide m8; replace htb := hide htb; replace htb8 := hide htb8; replace hz8 := hide hz8)
    | (go_at_call 39; (with_reducible refine (hqn.out _).mono ?_); rintro e w9 ⟨rfl, hq, m9⟩
       have hq := plus_lo (W0 := w8) hq (Mod.size (F := fun _ => False) (by (repeat (first | (with_reducible exact Mod.refl _ _) | (with_reducible refine Mod.drew ?_) | (with_reducible refine Mod.alloc ?_ _)))))
       try simp only [World.size_alloc] at hq
       have M59 : Mod (fun _ => False) w5 w9 := (by refine Mod.trans ?_ m9 (fun _ _ h => h); (repeat (first | (with_reducible exact Mod.refl _ _) | (with_reducible exact M56.out) | (with_reducible exact M57.out) | (with_reducible exact M58.out) | (with_reducible exact M59.out) | (with_reducible refine Mod.drew ?_) | (with_reducible refine Mod.alloc ?_ _))))
       have M89 : Mod (fun _ => False) w8 w9 := (by refine Mod.trans ?_ m9 (fun _ _ h => h); (repeat (first | (with_reducible exact Mod.refl _ _) | (with_reducible refine Mod.drew ?_) | (with_reducible refine Mod.alloc ?_ _))))
       replace M89 := hide M89; replace M59 := hide M59; replace m9 := hide m9; replace hq := hide hq))
  all_goals go_wp2_with fail
  all_goals go_ret2
  all_goals
    have M79 := M78.out.trans M89.out (fun _ _ h => h)
    have M69 := M67.out.trans M79 (fun _ _ h => h)
    have M02 : Mod (fun _ => False) w w2 := M2.out
    have M05 := M02.trans M25.out (fun _ _ h => h)
    have M09 := M05.trans M59.out (fun _ _ h => h)
    have s02 := M02.size
    have s25 := M25.out.size
    have s56 := M56.out.size
    have s67 := M67.out.size
    have s78 := M78.out.size
    have s89 := M89.out.size
    have s23 := M23.out.size
    have s24 := M24.out.size
    have bp : w.heap.size ≤ p := by have := hp4.out; omega
    have bk : w.heap.size ≤ kp := by have := hp5.out; omega
    have M49 := m5.out.trans M59.out (fun _ _ h => h)
    have hst9 := hst.out.mod M49 (fun h => h)
    have hsl9 := M59.out.heap hslo.out (fun h => h)
    have hpg9 := hpg.out.mod M79 (fun h => h)
    have htb9 := M89.out.heap htb.out (fun h => h)
    clear hcs2 hcs5
    first
    | (obtain ⟨c, a, h1, h2, h3, h4, h5⟩ := unew_fin B bd wb p kp pg tb _ w5.heap.size prot x F _ w w9 hW.out hBs M09 hst9 hsl9 hpg9 htb9 hq.out (fun k hk => ⟨by have := hk.1; omega, hk.2⟩) (M69.heap (m6.out.heap (heap_alloc_new w5 _) (fun h => h)) (fun h => h)) bp bk (by omega) (by omega) (by omega); exact ⟨c, a, by rw [h1]; rfl, h2, h3, h4, h5⟩)
    | (obtain ⟨c, a, h1, h2, h3, h4, h5⟩ := unew_fin B bd wb p kp pg tb _ w6.heap.size prot x F _ w w9 hW.out hBs M09 hst9 hsl9 hpg9 htb9 hq.out (fun k hk => ⟨by have := hk.1; omega, hk.2⟩) (M79.heap (m7.out.heap (heap_alloc_new w6 _) (fun h => h)) (fun h => h)) bp bk (by omega) (by omega) (by omega); exact ⟨c, a, by rw [h1]; rfl, h2, h3, h4, h5⟩)
    | (obtain ⟨c, a, h1, h2, h3, h4, h5⟩ := unew_fin B bd wb p kp pg tb _ w7.heap.size prot x F _ w w9 hW.out hBs M09 hst9 hsl9 hpg9 htb9 hq.out (fun k hk => ⟨by have := hk.1; omega, hk.2⟩) (M89.out.heap (m8.out.heap (heap_alloc_new w7 _) (fun h => h)) (fun h => h)) bp bk (by omega) (by omega) (by omega); exact ⟨c, a, by rw [h1]; rfl, h2, h3, h4, h5⟩)
    | (obtain ⟨c, a, h1, h2, h3, h4, h5⟩ := unew_fin B bd wb p kp pg tb _ w8.heap.size prot x F _ w w9 hW.out hBs M09 hst9 hsl9 hpg9 htb9 hq.out (fun k hk => ⟨by have := hk.1; omega, hk.2⟩) (m9.out.heap (heap_alloc_new w8 _) (fun h => h)) bp bk (by omega) (by omega) (by omega); exact ⟨c, a, by rw [h1]; rfl, h2, h3, h4, h5⟩)
    | (obtain ⟨c, a, h1, h2, h3, h4, h5⟩ := unew_fin B bd wb p kp pg tb _ w9.heap.size prot x F _ w (w9.alloc (.cells #[.pointer (some ⟨p, 0, none⟩), .int .u8 prot] 129)) hW.out hBs (M09.alloc _) (hst9.mod ((Mod.refl (fun _ => False) w9).alloc _) (fun h => h)) (((Mod.refl (fun _ => False) w9).alloc _).heap hsl9 (fun h => h)) (hpg9.mod ((Mod.refl (fun _ => False) w9).alloc _) (fun h => h)) (((Mod.refl (fun _ => False) w9).alloc _).heap htb9 (fun h => h)) (hq.out.mod ((Mod.refl (fun _ => False) w9).alloc _) (fun _ _ h => h)) (fun k hk => ⟨by have := hk.1; omega, by have := hk.2; simp; omega⟩) (heap_alloc_new w9 _) bp bk (by omega) (by omega) (by omega); simp only [World.size_alloc] at h1 h3 h4; exact ⟨c, a, by rw [h1]; rfl, h2, h3, h4, h5⟩)
end Go.Proofs.YtjkpelbhhapebaaGreatDoor
