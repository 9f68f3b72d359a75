/-
  unit.New, walked. Conditions: the name u, 32 blocks, a serial, a type of protection. Unit.Do, walked: what waits is told; what may be done runs. Its parts' contracts are asked. Conditions: as stated.
-/
import Derived.Test.YtjkpelbhhapebaaGreatDoorLoad0
import Derived.BigQuiet
namespace Go.Proofs.YtjkpelbhhapebaaGreatDoor
open Go.RowKit
open W (Nxt)
set_option maxRecDepth 100000
def uName : ByteArray := ⟨#[117]⟩
abbrev cfA (prot : Int) : Array Value := #[.string uE, .string uE, .string uE, .string uS, .int .u8 prot, .int .i64 32]
theorem vv_any (v : M.V) (w : World) : Calls Tryz.prog 37 #[.agg #[.bool v.a, .bool v.b, .bool v.c]] w fun e w' => ∃ p, e = .returned (.pointer (some ⟨p, 0, none⟩)) ∧ M.PG w' p v v ∧ Mod (fun _ => False) w w' ∧ w.heap.size ≤ p := M.new_any v w
/-- A new unit. -/
def us0 (prot : Int) (bd : Nat) (x : Wx) : US := ⟨prot, true, x, bd, fun _ => [], tb0, ⟨true, false, false⟩, ⟨true, false, false⟩, false, -1, 0, 0⟩
theorem Q.typed {w : World} {b : Nat} {L : Nat → List Int} {F : Nat → Prop} (h : A.Q w b L F) : A.Q w b L (fun k => F k ∧ ∃ cs t, w.heap[k]? = some (.cells cs t (0, 0)) ∧ (t = 149 ∨ t = 30)) := by
  obtain ⟨cs, h1, h2, h3, h4⟩ := h
  refine ⟨cs, h1, h2, ⟨h3, cs, 149, h1, .inl rfl⟩, fun i hi => ?_⟩
  obtain ⟨k1, k2, v, k3, k4, k5⟩ := h4 i hi
  refine ⟨k1, k2, v, k3, k4, fun k hk => ⟨k5 k hk, ?_⟩⟩
  rcases k4.2 with ⟨rfl, -⟩ | ⟨g, cap, cur, rfl, -, hh, -⟩
  · simp [Value.ownBlock] at hk
  · simp only [Value.ownBlock, Option.some.injEq] at hk
    subst hk
    exact ⟨_, 30, hh, .inr rfl⟩
theorem plus_lo {W0 X w : World} {b : Nat} {L : Nat → List Int} (hq : A.Q w b L (Plus (fun _ => False) X w)) (h : W0.heap.size ≤ X.heap.size) : A.Q w b L (fun k => W0.heap.size ≤ k ∧ k < w.heap.size) :=
  hq.mono fun k hk => by
    rcases hk with hk | hk
    · exact hk.elim
    · exact ⟨Nat.le_trans h hk.1, hk.2⟩
theorem ne_type {w : World} {i j : Nat} {cs ds : Array Value} {s t : TypeId} (h : w.heap[i]? = some (.cells cs s (0, 0))) (k : w.heap[j]? = some (.cells ds t (0, 0))) (hn : s ≠ t) : i ≠ j := by
  rintro rfl
  rw [h] at k
  injection k with k
  injection k with _ k _
  exact hn k
theorem unew_fin (B bd wb p kp pg tb qb dv : Nat) (prot : Int) (x : Wx) (F Fq : Nat → Prop) (w Y : World) (hW : WU B w wb bd x F) (hB : B ≤ w.heap.size) (mY : Mod (fun _ => False) w Y) (hst : ST Y p wb sd true) (hsl : SL Y kp wb sp false (-1) 0) (hpg : M.PG Y pg ⟨true, false, false⟩ ⟨true, false, false⟩)
    (htb : TB Y tb (.slice none 0 0) tb0) (hq : A.Q Y qb (fun _ => []) Fq) (hFq : ∀ k, Fq k → w.heap.size ≤ k ∧ k < Y.heap.size) (hdv : DV Y dv p prot) (b1 : w.heap.size ≤ p) (b2 : w.heap.size ≤ kp) (b3 : w.heap.size ≤ pg) (b4 : w.heap.size ≤ tb) (b5 : w.heap.size ≤ dv) :
    ∃ c a, a.u = Y.heap.size ∧ a.wb = wb ∧ UN B c (Y.alloc (.cells (uA ⟨Y.heap.size, dv, p, wb, qb, tb, pg, kp⟩ prot 0 0 0) 99)) a (us0 prot bd x) 0 ∧ Mod (fun _ => False) w (Y.alloc (.cells (uA ⟨Y.heap.size, dv, p, wb, qb, tb, pg, kp⟩ prot 0 0 0) 99)) ∧ ∀ k, k < w.heap.size → c k ≠ 0 → F k := by
  classical
  obtain ⟨G, hG⟩ : ∃ G : Nat → Prop, G = fun k => Fq k ∧ ∃ cs t, Y.heap[k]? = some (.cells cs t (0, 0)) ∧ (t = 149 ∨ t = 30) := ⟨_, rfl⟩
  have hq' : A.Q Y qb (fun _ => []) G := by rw [hG]; exact Q.typed hq
  have hGn : ∀ {i : Nat} {cs : Array Value} {t : TypeId}, Y.heap[i]? = some (.cells cs t (0, 0)) → t ≠ 149 → t ≠ 30 → ¬ G i := fun {i cs t} hi n1 n2 g => by
    rw [hG] at g
    obtain ⟨-, ds, s, h1, h2⟩ := g
    have := ne_type hi h1 (by rcases h2 with rfl | rfl <;> assumption)
    exact this rfl
  have sp' := (Array.getElem?_eq_some_iff.1 hst).1
  have skp := (Array.getElem?_eq_some_iff.1 hsl).1
  have spg := hpg.lt
  have stb := (Array.getElem?_eq_some_iff.1 htb).1
  have sdv := hdv.lt
  have n1 : p ≠ kp := ne_type hst hsl (by decide)
  have n2 : p ≠ pg := ne_type hst hpg (by decide)
  have n3 : p ≠ tb := ne_type hst htb (by decide)
  have n4 : p ≠ dv := ne_type hst hdv (by decide)
  have n5 : kp ≠ pg := ne_type hsl hpg (by decide)
  have n6 : kp ≠ tb := ne_type hsl htb (by decide)
  have n7 : kp ≠ dv := ne_type hsl hdv (by decide)
  have n8 : pg ≠ tb := ne_type hpg htb (by decide)
  have n9 : pg ≠ dv := ne_type hpg hdv (by decide)
  have n10 : tb ≠ dv := ne_type htb hdv (by decide)
  have g1 : ¬ G p := hGn hst (by decide) (by decide)
  have g2 : ¬ G kp := hGn hsl (by decide) (by decide)
  have g3 : ¬ G pg := hGn hpg (by decide) (by decide)
  have g4 : ¬ G tb := hGn htb (by decide) (by decide)
  have g5 : ¬ G dv := hGn hdv (by decide) (by decide)
  have hGb : ∀ k, G k → w.heap.size ≤ k ∧ k < Y.heap.size := fun k hk => by
    rw [hG] at hk
    exact hFq k hk.1
  have hYs := mY.size
  have ma : Mod (fun _ => False) Y (Y.alloc (.cells (uA ⟨Y.heap.size, dv, p, wb, qb, tb, pg, kp⟩ prot 0 0 0) 99)) := (Mod.refl _ Y).alloc _
  obtain ⟨c, hc⟩ : ∃ c : Nat → Nat, c = fun k => if k < w.heap.size then (if F k then 1 else 0) else if k = p then 6 else if k = kp then 5 else if k = pg then 4 else if k = tb then 3 else if k = dv then 7 else if k = Y.heap.size then 8 else if G k then 2 else 0 := ⟨_, rfl⟩
  have cold : ∀ k, ¬ k < w.heap.size → c k = if k = p then 6 else if k = kp then 5 else if k = pg then 4 else if k = tb then 3 else if k = dv then 7 else if k = Y.heap.size then 8 else if G k then 2 else 0 := fun k hk => by
    rw [hc]
    exact if_neg hk
  have cw : ∀ k, k < w.heap.size → c k = if F k then 1 else 0 := fun k hk => by
    rw [hc]
    exact if_pos hk
  clear hc
  have eF : ∀ k, F k → c k = 1 := fun k hk => by rw [cw k (hW.bound k hk).2, if_pos hk]
  have eG : ∀ k, G k → c k = 2 := fun k hk => by
    have := hGb k hk
    rw [cold k (by omega), if_neg (fun e : k = p => g1 (e ▸ hk)), if_neg (fun e : k = kp => g2 (e ▸ hk)), if_neg (fun e : k = pg => g3 (e ▸ hk)), if_neg (fun e : k = tb => g4 (e ▸ hk)), if_neg (fun e : k = dv => g5 (e ▸ hk)), if_neg (by omega), if_pos hk]
  have q1 : c p = 6 := by rw [cold p (by omega), if_pos rfl]
  have q2 : c kp = 5 := by rw [cold kp (by omega), if_neg n1.symm, if_pos rfl]
  have q3 : c pg = 4 := by rw [cold pg (by omega), if_neg n2.symm, if_neg n5.symm, if_pos rfl]
  have q4 : c tb = 3 := by rw [cold tb (by omega), if_neg n3.symm, if_neg n6.symm, if_neg n8.symm, if_pos rfl]
  have q5 : c dv = 7 := by rw [cold dv (by omega), if_neg n4.symm, if_neg n7.symm, if_neg n9.symm, if_neg n10.symm, if_pos rfl]
  have q6 : c Y.heap.size = 8 := by rw [cold _ (by omega), if_neg (by omega), if_neg (by omega), if_neg (by omega), if_neg (by omega), if_neg (by omega), if_pos rfl]
  have q7 : ∀ k, Y.heap.size + 1 ≤ k → c k = 0 := fun k hk => by
    rw [cold _ (by omega), if_neg (by omega), if_neg (by omega), if_neg (by omega), if_neg (by omega), if_neg (by omega), if_neg (by omega), if_neg (fun h => by have := (hGb k h).2; omega)]
  refine ⟨c, ⟨Y.heap.size, dv, p, wb, qb, tb, pg, kp⟩, rfl, rfl, ?_, mY.trans ma (fun _ _ h => h), fun k hk hn => ?_⟩
  · exact {
      wu := ⟨F, hW.mod (mY.trans ma (fun _ _ h => h)) (fun _ _ h => h), eF⟩
      qu := ⟨G, hq'.mod ma (fun _ _ h => h), fun k hk => ⟨eG k hk, Nat.le_trans hB (hGb k hk).1, Nat.lt_of_lt_of_le (hGb k hk).2 ma.size⟩⟩
      tbl := ⟨fun k => k = tb, ⟨_, ma.heap htb (fun h => h), Row.nil _ _ _ _, by simp [Value.ownBlock], rfl, by simp [Value.ownBlock]⟩, fun k hk => by
        subst hk
        exact ⟨q4, Nat.le_trans hB b4, Nat.lt_of_lt_of_le stb ma.size⟩⟩
      pgs := ⟨hpg.mod ma (fun h => h), q3, Nat.le_trans hB b3⟩
      slo := ⟨ma.heap hsl (fun h => h), q2, Nat.le_trans hB b2⟩
      sto := ⟨hst.mod ma (fun h => h), q1, Nat.le_trans hB b1⟩
      dev := ⟨hdv.mod ma (fun h => h), q5, Nat.le_trans hB b5⟩
      own := ⟨⟨0, heap_alloc_new _ _⟩, q6, Nat.le_trans hB hYs⟩
      sup := fun k hk => q7 k (by simpa using hk)
      big := Nat.le_trans hB (Nat.le_trans hYs ma.size) }
  · by_cases h : F k
    · exact h
    · rw [cw k hk, if_neg h] at hn
      exact absurd rfl hn
set_option maxHeartbeats 8000000 in
theorem unew_in (B bd wb : Nat) (prot : Int) (x : Wx) (F : Nat → Prop) (w : World) (hW : WU B w wb bd x F) (hp : 0 ≤ prot ∧ prot ≤ 3) :
    Calls Tryz.prog 18 #[.pointer (some ⟨wb, 0, none⟩), .string uName, .agg (cfA prot)] w fun e w' => ∃ c a, e = .returned (.tuple #[.pointer (some ⟨a.u, 0, none⟩), .int .i64 0]) ∧ a.wb = wb ∧ UN B c w' a (us0 prot bd x) 0 ∧ Mod (fun _ => False) w w' ∧ ∀ k, k < w.heap.size → c k ≠ 0 → F k := by
  have hBs : B ≤ w.heap.size := by
    obtain ⟨d, N, h, -⟩ := hW
    exact h.2.2
  have hfo := fun w => form_any prot w hp
  have hde := fun w => M.default_any w
  have hso := fun w => stopen_any wb sd true w (by decide) (by decide)
  have hsl := fun w => slopen_any wb sp w (by decide) (by decide)
  have hmn := fun w => vv_any ⟨true, false, false⟩ w
  have hpn := fun w => prnew_any w
  have hqn := fun w => A.new_any w
  have m1 : Mod (fun _ => False) w (w.alloc (.cells (cfA prot) 71)) := (Mod.refl _ w).alloc _
  have hcf : (w.alloc (.cells (cfA prot) 71)).heap[w.heap.size]? = some (.cells (cfA prot) 71 (0, 0)) := heap_alloc_new _ _
  have e1 : (uName ++ ⟨#[46, 100]⟩) = sd := by rfl
  have e2 : (uName ++ ⟨#[46, 112]⟩) = sp := by rfl
  have z1 : uName.size = 1 := by rfl
  have hcs : ∀ W, Mod (fun _ => False) (w.alloc (.cells (cfA prot) 71)) W → W.cell? ⟨w.heap.size, 0, none⟩ = some (.string uE) ∧ W.cell? ⟨w.heap.size, 1, none⟩ = some (.string uE) ∧ W.cell? ⟨w.heap.size, 2, none⟩ = some (.string uE) ∧ W.cell? ⟨w.heap.size, 3, none⟩ = some (.string uS) ∧ W.cell? ⟨w.heap.size, 4, none⟩ = some (.int .u8 prot) ∧ W.cell? ⟨w.heap.size, 5, none⟩ = some (.int .i64 32) := fun W m => by
    have h := m.heap hcf (fun h => h)
    refine ⟨?_, ?_, ?_, ?_, ?_, ?_⟩ <;> rw [cell_of_row W _ _ _ 71 (0, 0) h] <;> rfl
  generalize uName = nm at *
  replace hfo := hide hfo; replace hde := hide hde; replace hso := hide hso; replace hsl := hide hsl; replace hmn := hide hmn; replace hpn := hide hpn; replace hqn := hide hqn; replace hcf := hide hcf; replace hcs := hide hcs; replace m1 := hide m1; replace hW := hide hW
  have hf0 := M.field0 true false false
  go_enter Tryz.func18, Tryz.ntmps18
  go_wp2_with (go_at_call 33; (with_reducible refine (hfo.out _).mono ?_); rintro e w2 ⟨rfl, m2⟩
               have M2 := m1.out.trans m2 (fun _ _ h => h)
               have M12 := m2
               replace m2 := hide m2; replace M2 := hide M2; replace M12 := hide M12)
  have hcs2 := fun W (m : Mod (fun _ => False) w2 W) => hcs.out W (m2.out.trans m (fun _ _ h => h))
  have C2 := hcs2 w2 (Mod.refl _ _)
  replace hcs2 := hide hcs2
  have C2h := hide C2
  go_region_held3 (fun w' => w'.cell? ⟨w.heap.size, 5, none⟩ = some (.int .i64 32))
    (first | exact (hcs2.out _ ((Mod.refl _ w2).drew)).2.2.2.2.2 | exact (hcs2.out _ M23.out).2.2.2.2.2 | exact (hcs2.out _ M24.out).2.2.2.2.2)
    (first
    | (go_at_call 35; (with_reducible refine (hde.out _).mono ?_); rintro e w3 ⟨rfl, m3⟩
       have M23 := ((Mod.refl (fun _ => False) w2).drew).trans m3 (fun _ _ h => h)
       replace M23 := hide M23; replace m3 := hide m3)
    | (go_at_call 34; (with_reducible refine (hso.out _).mono ?_); rintro e w4 ⟨p, rfl, hst, m4, hp4, hz4⟩
       have M24 := M23.out.trans m4 (fun _ _ h => h)
       replace M24 := hide M24; replace m4 := hide m4; replace hst := hide hst; replace hp4 := hide hp4; replace hz4 := hide hz4))
  go_wp2_with (go_at_call 36; (with_reducible refine (hsl.out _).mono ?_); rintro e w5 ⟨kp, rfl, hslo, m5, hp5, hz5⟩
               have M25 := M24.out.trans m5 (fun _ _ h => h)
               replace M25 := hide M25; replace m5 := hide m5; replace hslo := hide hslo; replace hp5 := hide hp5; replace hz5 := hide hz5)
  have hcs5 := fun W (m : Mod (fun _ => False) w5 W) => hcs2.out W (M25.out.trans m (fun _ _ h => h))
  clear C2 hf0
  have C5 := hcs5 w5 (Mod.refl _ _)
  replace hcs5 := hide hcs5; replace C5 := hide C5
  go_region_held3 (fun w' => w'.cell? ⟨w.heap.size, 0, none⟩ = some (.string uE) ∧ w'.cell? ⟨w.heap.size, 1, none⟩ = some (.string uE) ∧ w'.cell? ⟨w.heap.size, 2, none⟩ = some (.string uE) ∧ w'.cell? ⟨w.heap.size, 3, none⟩ = some (.string uS) ∧ w'.cell? ⟨w.heap.size, 4, none⟩ = some (.int .u8 prot) ∧ w'.cell? ⟨w.heap.size, 5, none⟩ = some (.int .i64 32))
    ((refine hcs5.out _ ?_; (repeat (first | (with_reducible exact Mod.refl _ _) | (with_reducible exact M56.out) | (with_reducible exact M57.out) | (with_reducible exact M58.out) | (with_reducible exact M59.out) | (with_reducible refine Mod.drew ?_) | (with_reducible refine Mod.alloc ?_ _)))))
    (first
    | (go_at_call 35; (with_reducible refine (hde.out _).mono ?_); rintro e w6 ⟨rfl, m6⟩
       have M56 : Mod (fun _ => False) w5 w6 := (by refine Mod.trans ?_ m6 (fun _ _ h => h); (repeat (first | (with_reducible exact Mod.refl _ _) | (with_reducible exact M56.out) | (with_reducible exact M57.out) | (with_reducible exact M58.out) | (with_reducible exact M59.out) | (with_reducible refine Mod.drew ?_) | (with_reducible refine Mod.alloc ?_ _))))
       replace M56 := hide M56; replace m6 := hide m6)
    | (go_at_call 37; (with_reducible refine (hmn.out _).mono ?_); rintro e w7 ⟨pg, rfl, hpg, m7, hpg7⟩
       have M57 : Mod (fun _ => False) w5 w7 := (by refine Mod.trans ?_ m7 (fun _ _ h => h); (repeat (first | (with_reducible exact Mod.refl _ _) | (with_reducible exact M56.out) | (with_reducible exact M57.out) | (with_reducible exact M58.out) | (with_reducible exact M59.out) | (with_reducible refine Mod.drew ?_) | (with_reducible refine Mod.alloc ?_ _))))
       have x7 : w6.heap.size ≤ pg := Nat.le_trans (Mod.size (F := fun _ => False) (by (repeat (first | (with_reducible exact Mod.refl _ _) | (with_reducible refine Mod.drew ?_) | (with_reducible refine Mod.alloc ?_ _))))) hpg7
       have M67 : Mod (fun _ => False) w6 w7 := (by refine Mod.trans ?_ m7 (fun _ _ h => h); (repeat (first | (with_reducible exact Mod.refl _ _) | (with_reducible refine Mod.drew ?_) | (with_reducible refine Mod.alloc ?_ _))))
       have l7 := hpg.lt
       replace M67 := hide M67; replace M57 := hide M57; replace m7 := hide m7; replace hpg := hide hpg; replace hpg7 := hide hpg7)
    | (go_at_call 38; (with_reducible refine (hpn.out _).mono ?_); rintro e w8 ⟨tb, rfl, htb, m8, htb8, hz8⟩
       have M58 : Mod (fun _ => False) w5 w8 := (by refine Mod.trans ?_ m8 (fun _ _ h => h); (repeat (first | (with_reducible exact Mod.refl _ _) | (with_reducible exact M56.out) | (with_reducible exact M57.out) | (with_reducible exact M58.out) | (with_reducible exact M59.out) | (with_reducible refine Mod.drew ?_) | (with_reducible refine Mod.alloc ?_ _))))
       have x8 : w7.heap.size ≤ tb := by rw [htb8]; exact Mod.size (F := fun _ => False) (by (repeat (first | (with_reducible exact Mod.refl _ _) | (with_reducible refine Mod.drew ?_) | (with_reducible refine Mod.alloc ?_ _))))
       have M78 : Mod (fun _ => False) w7 w8 := (by refine Mod.trans ?_ m8 (fun _ _ h => h); (repeat (first | (with_reducible exact Mod.refl _ _) | (with_reducible refine Mod.drew ?_) | (with_reducible refine Mod.alloc ?_ _))))
       replace M78 := hide M78; replace M58 := hide M58; replace m8 := hide m8; replace htb := hide htb; replace htb8 := hide htb8; replace hz8 := hide hz8)
    | (go_at_call 39; (with_reducible refine (hqn.out _).mono ?_); rintro e w9 ⟨rfl, hq, m9⟩
       have hq := plus_lo (W0 := w8) hq (Mod.size (F := fun _ => False) (by (repeat (first | (with_reducible exact Mod.refl _ _) | (with_reducible refine Mod.drew ?_) | (with_reducible refine Mod.alloc ?_ _)))))
       try simp only [World.size_alloc] at hq
       have M59 : Mod (fun _ => False) w5 w9 := (by refine Mod.trans ?_ m9 (fun _ _ h => h); (repeat (first | (with_reducible exact Mod.refl _ _) | (with_reducible exact M56.out) | (with_reducible exact M57.out) | (with_reducible exact M58.out) | (with_reducible exact M59.out) | (with_reducible refine Mod.drew ?_) | (with_reducible refine Mod.alloc ?_ _))))
       have M89 : Mod (fun _ => False) w8 w9 := (by refine Mod.trans ?_ m9 (fun _ _ h => h); (repeat (first | (with_reducible exact Mod.refl _ _) | (with_reducible refine Mod.drew ?_) | (with_reducible refine Mod.alloc ?_ _))))
       replace M89 := hide M89; replace M59 := hide M59; replace m9 := hide m9; replace hq := hide hq))
  all_goals go_wp2_with fail
  all_goals go_ret2
  all_goals
    have M79 := M78.out.trans M89.out (fun _ _ h => h)
    have M69 := M67.out.trans M79 (fun _ _ h => h)
    have M02 : Mod (fun _ => False) w w2 := M2.out
    have M05 := M02.trans M25.out (fun _ _ h => h)
    have M09 := M05.trans M59.out (fun _ _ h => h)
    have s02 := M02.size
    have s25 := M25.out.size
    have s56 := M56.out.size
    have s67 := M67.out.size
    have s78 := M78.out.size
    have s89 := M89.out.size
    have s23 := M23.out.size
    have s24 := M24.out.size
    have bp : w.heap.size ≤ p := by have := hp4.out; omega
    have bk : w.heap.size ≤ kp := by have := hp5.out; omega
    have M49 := m5.out.trans M59.out (fun _ _ h => h)
    have hst9 := hst.out.mod M49 (fun h => h)
    have hsl9 := M59.out.heap hslo.out (fun h => h)
    have hpg9 := hpg.out.mod M79 (fun h => h)
    have htb9 := M89.out.heap htb.out (fun h => h)
    clear hcs2 hcs5
    first
    | (obtain ⟨c, a, h1, h2, h3, h4, h5⟩ := unew_fin B bd wb p kp pg tb _ w5.heap.size prot x F _ w w9 hW.out hBs M09 hst9 hsl9 hpg9 htb9 hq.out (fun k hk => ⟨by have := hk.1; omega, hk.2⟩) (M69.heap (m6.out.heap (heap_alloc_new w5 _) (fun h => h)) (fun h => h)) bp bk (by omega) (by omega) (by omega); exact ⟨c, a, by rw [h1]; rfl, h2, h3, h4, h5⟩)
    | (obtain ⟨c, a, h1, h2, h3, h4, h5⟩ := unew_fin B bd wb p kp pg tb _ w6.heap.size prot x F _ w w9 hW.out hBs M09 hst9 hsl9 hpg9 htb9 hq.out (fun k hk => ⟨by have := hk.1; omega, hk.2⟩) (M79.heap (m7.out.heap (heap_alloc_new w6 _) (fun h => h)) (fun h => h)) bp bk (by omega) (by omega) (by omega); exact ⟨c, a, by rw [h1]; rfl, h2, h3, h4, h5⟩)
    | (obtain ⟨c, a, h1, h2, h3, h4, h5⟩ := unew_fin B bd wb p kp pg tb _ w7.heap.size prot x F _ w w9 hW.out hBs M09 hst9 hsl9 hpg9 htb9 hq.out (fun k hk => ⟨by have := hk.1; omega, hk.2⟩) (M89.out.heap (m8.out.heap (heap_alloc_new w7 _) (fun h => h)) (fun h => h)) bp bk (by omega) (by omega) (by omega); exact ⟨c, a, by rw [h1]; rfl, h2, h3, h4, h5⟩)
    | (obtain ⟨c, a, h1, h2, h3, h4, h5⟩ := unew_fin B bd wb p kp pg tb _ w8.heap.size prot x F _ w w9 hW.out hBs M09 hst9 hsl9 hpg9 htb9 hq.out (fun k hk => ⟨by have := hk.1; omega, hk.2⟩) (m9.out.heap (heap_alloc_new w8 _) (fun h => h)) bp bk (by omega) (by omega) (by omega); exact ⟨c, a, by rw [h1]; rfl, h2, h3, h4, h5⟩)
    | (obtain ⟨c, a, h1, h2, h3, h4, h5⟩ := unew_fin B bd wb p kp pg tb _ w9.heap.size prot x F _ w (w9.alloc (.cells #[.pointer (some ⟨p, 0, none⟩), .int .u8 prot] 129)) hW.out hBs (M09.alloc _) (hst9.mod ((Mod.refl (fun _ => False) w9).alloc _) (fun h => h)) (((Mod.refl (fun _ => False) w9).alloc _).heap hsl9 (fun h => h)) (hpg9.mod ((Mod.refl (fun _ => False) w9).alloc _) (fun h => h)) (((Mod.refl (fun _ => False) w9).alloc _).heap htb9 (fun h => h)) (hq.out.mod ((Mod.refl (fun _ => False) w9).alloc _) (fun _ _ h => h)) (fun k hk => ⟨by have := hk.1; omega, by have := hk.2; simp; omega⟩) (heap_alloc_new w9 _) bp bk (by omega) (by omega) (by omega); simp only [World.size_alloc] at h1 h3 h4; exact ⟨c, a, by rw [h1]; rfl, h2, h3, h4, h5⟩)
end Go.Proofs.YtjkpelbhhapebaaGreatDoor
namespace Go.Proofs.YtjkpelbhhapebaaGreatDoor
open Go.RowKit
open W (Nxt)
set_option maxRecDepth 100000
/-- A result, with its data, and the state of the unit behind it. -/
def ResP (B : Nat) (c : Nat → Nat) (w : World) (u : Nat) (RR : Int → Int → Int → Int → Bool → List Int → UA → US → Prop) (e : Ending) (w' : World) : Prop :=
  ∃ st key code info has A n cp D c2 a2 S2, e = .returned (rsA st key code info has (.slice A n cp)) ∧ Row w' 5 1 (ic .u8) (.slice A n cp) D ∧ (∀ k, (Value.slice A n cp).ownBlock = some k → w.heap.size ≤ k ∧ c2 k = 0) ∧ UN B c2 w' a2 S2 0 ∧ a2.u = u ∧ UX B c c2 w w' ∧ RR st key code info has D a2 S2
/-- Start leaves just that state. -/
def StC (B : Nat) (a : UA) (S S1 : US) : Prop := ∀ c W, UN B c W a S 0 → Calls Tryz.prog 21 #[.pointer (some ⟨a.u, 0, none⟩)] W fun e w' => e = .returned (.int .i64 0) ∧ Lft B c W a.u 0 (fun a' S' => a'.wb = a.wb ∧ S' = S1) w'
theorem StC.again (B : Nat) (a : UA) (S : US) (h : S.done = 1) : StC B a S S := fun c W U => (start_again B c a S W U h).mono fun _ _ ⟨e1, e2⟩ => ⟨e1, c, a, S, (U.keep e2).1, rfl, (U.keep e2).2, rfl, rfl⟩
theorem StC.first (B : Nat) (a : UA) (S : US) (hd : S.done = 0) (hM : S.bd < 90000) (h0 : S.x.seen (spn 0) = none) (h1 : S.x.seen (spn 1) = none) :
    StC B a S { S with L := powK S.L 8, bd := S.bd + 2, sure := true, at_ := -1, gen := 0, done := 1 } := fun c W U =>
  (start_first B c a S (fun a' S' => a'.wb = a.wb ∧ S' = { S with L := powK S.L 8, bd := S.bd + 2, sure := true, at_ := -1, gen := 0 }) W U hd (fun c W U => (load_none B c a S 1 W U hM h0 h1).mono fun e w' ⟨c', e1, e2, e3⟩ => ⟨e1, c', a, _, e2, rfl, e3, rfl, rfl⟩)).mono
    fun e w' ⟨e1, c', a', S', e2, e3, e4, S0, e5, e6, e7⟩ => ⟨e1, c', a', S', e2, e3, e4, e6, by rw [e5, e7]⟩
theorem UX.keep0 {B : Nat} {c c' : Nat → Nat} {w w' : World} {g : Nat} {o : Obj} (h : UX B c c' w w') (hg : w.heap[g]? = some o) (hc : c g = 0) : w'.heap[g]? = some o ∧ c' g = 0 := by
  have hl := (Array.getElem?_eq_some_iff.1 hg).1
  exact ⟨h.mod.heap hg (fun e => e hc), by rw [h.col g hl, hc]⟩
theorem UX.own {B g : Nat} {c c' : Nat → Nat} {w w1 w2 : World} (h : UX B c c' w w1) (m : Mod (fun k => k = g) w1 w2) (hg : w.heap.size ≤ g) (hB : B ≤ w.heap.size) : UX B c c' w w2 :=
  ⟨h.col, h.mod.trans m (fun i hi e => by omega), h.bel.trans ⟨m.os, m.tape, m.output, m.size, fun k hk => m.block k (by have := h.mod.size; omega) (by omega)⟩⟩
/-- A command's load, peeked at: nothing waits, or what goes first. -/
theorem UN.peek0 {B : Nat} {c : Nat → Nat} {w : World} {a : UA} {S : US} {mu : Int} (h : UN B c w a S mu) (n : Nat) (h8 : n < 8) (he : S.L n = []) :
    Calls Tryz.prog 23 #[.pointer (some ⟨a.qb, 0, none⟩), .int .i64 n] w fun e w' => e = .returned (.tuple #[.int .u16 0, .bool false]) ∧ Mod (fun _ => False) w w' := by
  obtain ⟨F, hQ, -⟩ := h.qu
  exact (A.peek_empty a.qb n S.L F w (by omega) (by omega) hQ (by simpa using he)).mono fun e w' ⟨e1, m, e2⟩ => ⟨e1, by rw [e2]; exact (Mod.refl _ w).drewN m⟩
theorem UN.peek1 {B : Nat} {c : Nat → Nat} {w : World} {a : UA} {S : US} {mu : Int} (h : UN B c w a S mu) (n : Nat) (h8 : n < 8) (he : 0 < (S.L n).length) :
    Calls Tryz.prog 23 #[.pointer (some ⟨a.qb, 0, none⟩), .int .i64 n] w fun e w' => e = .returned (.tuple #[.int .u16 (gi (S.L n) (A.fi (S.L n) (S.L n).length).toNat), .bool true]) ∧ Mod (fun _ => False) w w' := by
  obtain ⟨F, hQ, -⟩ := h.qu
  exact (A.peek_some a.qb n S.L F w (by omega) (by omega) hQ (by simpa using he)).mono fun e w' ⟨e1, m, e2⟩ => ⟨by simpa using e1, by rw [e2]; exact (Mod.refl _ w).drewN m⟩
/-- What is left of a list when what goes first is told. -/
def popL (l : List Int) : List Int := l.take (A.fi l l.length).toNat ++ l.drop ((A.fi l l.length).toNat + 1)
theorem UN.next1 {B : Nat} {c : Nat → Nat} {w : World} {a : UA} {S : US} {mu : Int} (h : UN B c w a S mu) (n : Nat) (h8 : n < 8) (he : 0 < (S.L n).length) :
    Calls Tryz.prog 24 #[.pointer (some ⟨a.qb, 0, none⟩), .int .i64 n] w fun e w' => ∃ c', e = .returned (.tuple #[.int .u16 (gi (S.L n) (A.fi (S.L n) (S.L n).length).toNat), .bool true]) ∧ UN B c' w' a { S with L := A.put S.L n (popL (S.L n)) } mu ∧ UX B c c' w w' := by
  obtain ⟨F, hQ, hF⟩ := h.qu
  have hfi := (A.fi_lt (S.L n) (S.L n).length).2.2 he
  obtain ⟨i, hi⟩ := Int.eq_ofNat_of_zero_le hfi
  exact (A.next_some a.qb n S.L F w (by omega) (by omega) hQ i (by simpa using hi)).mono fun e w' ⟨e1, e2, e3⟩ => by
    simp only [Int.toNat_natCast] at e1 e2
    have hp : popL (S.L n) = (S.L n).take i ++ (S.L n).drop (i + 1) := by rw [popL, hi]; rfl
    obtain ⟨c', q1, q2⟩ := h.queue hF _ e2 e3
    refine ⟨c', by rw [e1, hi]; rfl, ?_, q2⟩
    rw [hp]
    exact q1
theorem UN.next0 {B : Nat} {c : Nat → Nat} {w : World} {a : UA} {S : US} {mu : Int} (h : UN B c w a S mu) (n : Nat) (h8 : n < 8) (he : S.L n = []) :
    Calls Tryz.prog 24 #[.pointer (some ⟨a.qb, 0, none⟩), .int .i64 n] w fun e w' => e = .returned (.tuple #[.int .u16 0, .bool false]) ∧ Mod (fun _ => False) w w' := by
  obtain ⟨F, hQ, -⟩ := h.qu
  exact (A.next_empty a.qb n S.L F w (by omega) (by omega) hQ (by simpa using he)).mono fun e w' ⟨e1, m, e2⟩ => ⟨e1, by rw [e2]; exact (Mod.refl _ w).drewN m⟩
set_option maxHeartbeats 8000000 in
/-- Something waits: it is told. -/
theorem do_wait (B : Nat) (c : Nat → Nat) (a : UA) (S S1 : US) (n ab na cap : Nat) (L : List Int) (cm : Cm) (P : Value) (w : World) (h : UN B c w a S 0) (hst : StC B a S S1) (h8 : n < 8) (hr : Rd w 1 (ic .u8) (some ⟨ab, 0, none⟩) na L) (hna : 0 < na) (hab : c ab = 0)
    (hpa : ∀ W, Rd W 1 (ic .u8) (some ⟨ab, 0, none⟩) na L → Calls Tryz.prog 22 #[.slice (some ⟨ab, 0, none⟩) na cap] W fun e w' => e = .returned (.tuple #[.agg (cmA cm), .agg (seA 0 0 0 false), .bool true]) ∧ Mod (fun _ => False) W w')
    (k : Int) (hkd : cm.kind = k) (t3 : (k == 3) = false) (t17 : (k == 17) = false) (t2 : (k == 2) = false) (hw : 0 < (S1.L n).length) :
    Calls Tryz.prog 10 #[.pointer (some ⟨a.u, 0, none⟩), .int .i64 n, .slice (some ⟨ab, 0, none⟩) na cap, P] w
      (ResP B c w a.u fun st key code info has D a2 S2 => st = 2 ∧ key = 6 ∧ code = gi (S1.L n) (A.fi (S1.L n) (S1.L n).length).toNat ∧ info = 0 ∧ has = false ∧ D = [] ∧ a2.wb = a.wb ∧ S2 = { S1 with L := A.put S1.L n (popL (S1.L n)) }) := by
  obtain ⟨code, hcode⟩ : ∃ code, code = gi (S1.L n) (A.fi (S1.L n) (S1.L n).length).toNat := ⟨_, rfl⟩
  rw [← hcode]
  have hck := fun w => check_any 6 code 0 false w
  replace hck := hide hck; replace hw := hide hw; replace hcode := hide hcode
  obtain ⟨u, hu⟩ : ∃ u, u = a.u := ⟨_, rfl⟩
  have hd0 : decide ((n : Int) < 0) = false := by simp
  have hd8 : decide ((8 : Int) ≤ n) = false := by simp; omega
  have hablt := hr.lt0 hna
  have hult : u < w.heap.size := by rw [hu]; exact h.ult
  rw [← hu]
  replace h := hide h; replace hst := hide hst; replace hpa := hide hpa; replace hr := hide hr; replace hu := hide hu; replace hab := hide hab
  go_enter Tryz.func10, Tryz.ntmps10
  go_wp2_with (first
    | (refine list_al 35 _ new35' rfl rfl ?_
       intro w1 g8 hg8 h81 m1 hz1
       have U1 := (h.out.keep m1).1
       have X1 := (h.out.keep m1).2
       obtain ⟨k5, -, -, -, -, -, -, -, -⟩ := U1.cells
       obtain ⟨cn, hcn⟩ := U1.own.1
       have hct := count_any a S.prot S.done 0 cn w1 hcn
       have c8 : c g8 = 0 := h.out.sup _ (by omega)
       rw [← hu.out] at k5 hct
       replace hg8 := hide hg8; replace h81 := hide h81; replace m1 := hide m1; replace hz1 := hide hz1; replace U1 := hide U1; replace X1 := hide X1; replace hct := hide hct; replace hcn := hide hcn; replace c8 := hide c8)
    | (go_at_call 20; (with_reducible refine hct.out.mono ?_); rintro e w2 ⟨rv, cm2, rfl, ub2, m2, z2⟩
       rw [hu.out] at m2
       obtain ⟨U2, X2⟩ := U1.out.self ub2 m2 z2
       have h82 := X2.keep0 h81.out c8.out
       have hs2 := hst.out c w2 U2
       have X12 := X1.out.trans X2
       rw [← hu.out] at hs2
       replace U2 := hide U2; replace X12 := hide X12; replace h82 := hide h82; replace hs2 := hide hs2; clear X2 m2 ub2 z2)
    | (go_at_call 21; (with_reducible refine hs2.out.mono ?_); rintro e w3 ⟨rfl, hL⟩
       obtain ⟨c3, a3, S3, U3, hu3, X3, hwb3, hS3⟩ := hL
       have hS3 := hS3.symm
       subst hS3
       have h83 := X3.keep0 h82.out.1 h82.out.2
       have X13 := X12.out.trans X3
       have hr3 := hr.out.mod X13.mod (fun ad e k => by obtain rfl := Option.some.inj e; exact k hab.out)
       have hp3 := hpa.out w3 hr3
       replace U3 := hide U3; replace hu3 := hide hu3; replace X13 := hide X13; replace h83 := hide h83; replace hp3 := hide hp3; replace hwb3 := hide hwb3; clear X3 hr3)
    | (go_at_call 22; (with_reducible refine hp3.out.mono ?_); rintro e w4 ⟨rfl, m4⟩
       have U4 := (U3.out.keep m4).1
       have X14 := X13.out.trans (U3.out.keep m4).2
       have h84 := m4.heap h83.out.1 (fun h => h)
       have c84 := h83.out.2
       replace U4 := hide U4; replace X14 := hide X14; replace h84 := hide h84; replace c84 := hide c84; clear m4)
    | (refine list_al 104 _ new104 rfl rfl ?_
       intro w5 g9 hg9 h95 m5 hz5
       replace hg9 := hide hg9; replace h95 := hide h95; replace m5 := hide m5; replace hz5 := hide hz5)
    | (refine list_al 33 _ new33 rfl rfl ?_
       intro w6 g10 hg10 h106 m6 hz6
       have h96 := m6.heap h95.out (fun h => h)
       replace hg10 := hide hg10; replace h106 := hide h106; replace m6 := hide m6; replace hz6 := hide hz6; replace h96 := hide h96)
    | (refine list_put 104 (.tmp 9) (.tmp 46) rfl rfl g9 (cmA cm) rfl rfl (cmA (cm0 0)) h96.out rfl size104 (cm_one _) ?_
       intro w7 h97 m7
       have h107 := m7.heap h106.out (fun e => by have := hg10.out; have := hg9.out; have := hz5.out; omega)
       replace h97 := hide h97; replace m7 := hide m7; replace h107 := hide h107)
    | (refine list_put 33 (.tmp 10) (.tmp 47) rfl rfl g10 (seA 0 0 0 false) rfl rfl (seA 0 0 0 false) h107.out rfl size33 (se_one _ _ _ _) ?_
       intro w8 h108 m8
       have h98 := m8.heap h97.out (fun e => by have := hg10.out; have := hg9.out; have := hz5.out; omega)
       have M48 : Mod (fun _ => False) w4 w8 := ((m5.out.trans m6.out (fun _ _ h => h)).trans m7.out (fun i hi e => by have := hg9.out; omega)).trans m8 (fun i hi e => by have := hg10.out; have := hz5.out; have := hg9.out; omega)
       have U8 := (U4.out.keep M48).1
       have X18 := X14.out.trans (U4.out.keep M48).2
       have h88 := M48.heap h84.out (fun h => h)
       have c98 : c3 g9 = 0 := U4.out.sup _ (by have := hg9.out; omega)
       obtain ⟨-, -, -, -, k9, -, -, -, -⟩ := U8.cells
       rw [hu3.out] at k9
       have kk : w8.cell? ⟨g9, 0, none⟩ = some (.int .u8 cm.kind) := CM.c0 h98
       have hpk := U8.peek1 n h8 hw.out
       rw [← hcode.out] at hpk
       have kk := kk
       rw [hkd] at kk
       replace h108 := hide h108; replace h98 := hide h98; replace M48 := hide M48; replace U8 := hide U8; replace X18 := hide X18; replace h88 := hide h88; replace c98 := hide c98; replace hpk := hide hpk)
    | (go_at_call 23; (with_reducible refine hpk.out.mono ?_); rintro e w9 ⟨rfl, m9⟩
       have U9 := (U8.out.keep m9).1
       have X19 := X18.out.trans (U8.out.keep m9).2
       have h89 := m9.heap h88.out (fun h => h)
       obtain ⟨-, -, -, -, q9, -, -, -, -⟩ := U9.cells
       rw [hu3.out] at q9
       have hnx := U9.next1 n h8 hw.out
       rw [← hcode.out] at hnx
       replace U9 := hide U9; replace X19 := hide X19; replace h89 := hide h89; replace hnx := hide hnx; clear m9)
    | (go_at_call 24; (with_reducible refine hnx.out.mono ?_); rintro e w10 ⟨c10, rfl, U10, X10⟩
       have h810 := X10.keep0 h89.out c84.out
       have X110 := X19.out.trans X10
       replace U10 := hide U10; replace X110 := hide X110; replace h810 := hide h810; clear X10)
    | (go_at_call 19; (with_reducible refine (hck.out _).mono ?_); rintro e w11 ⟨rfl, m11⟩
       have U11 := (U10.out.keep m11).1
       have X111 := X110.out.trans (U10.out.keep m11).2
       have h811 := m11.heap h810.out.1 (fun h => h)
       replace U11 := hide U11; replace X111 := hide X111; replace h811 := hide h811; clear m11)
    | (refine list_put 35 (.tmp 8) (.tmp 88) rfl rfl g8 (rcA 2 6 code 0 false (.slice none 0 0)) rfl rfl zs35 h811.out rfl size35 (rc_one _ _ _ _ _ _ _ _) ?_
       intro w12 h12 m12; replace h12 := hide h12; replace m12 := hide m12))
  have U12 := U11.out.mod m12.out (fun k e => by rw [e]; exact h810.out.2)
  have X112 := X111.out.own m12.out (by rw [hg8.out]; exact Nat.le_refl _) h.out.big
  exact bodyPost_ret (v := rsA 2 6 code 0 false (.slice none 0 0)) (results_one rfl rfl (load_whole h12.out Tryz.underlying35 rfl size35)) rfl ⟨2, 6, code, 0, false, none, 0, 0, [], c10, a3, _, rfl, Row.nil _ _ _ _, by simp [Value.ownBlock], U12, hu3.out, X112, rfl, rfl, rfl, rfl, rfl, rfl, hwb3.out, rfl⟩
set_option maxHeartbeats 16000000 in
/-- What may be done runs. -/
theorem do_run (B : Nat) (c : Nat → Nat) (a : UA) (S S1 : US) (n ab na cap : Nat) (L : List Int) (cm : Cm) (P : Value) (w : World) (h : UN B c w a S 0) (hst : StC B a S S1) (h8 : n < 8) (hr : Rd w 1 (ic .u8) (some ⟨ab, 0, none⟩) na L) (hna : 0 < na) (hab : c ab = 0)
    (hpa : ∀ W, Rd W 1 (ic .u8) (some ⟨ab, 0, none⟩) na L → Calls Tryz.prog 22 #[.slice (some ⟨ab, 0, none⟩) na cap] W fun e w' => e = .returned (.tuple #[.agg (cmA cm), .agg (seA 0 0 0 false), .bool true]) ∧ Mod (fun _ => False) W w')
    (k cls : Int) (al : Bool) (hkd : cm.kind = k) (hcl : (k, cls) ∈ classOf) (hal : (k, al) ∈ altersOf) (t3 : (k == 3) = false) (t17 : (k == 17) = false) (t2 : (k == 2) = false) (hw : S1.L n = [])
    (hcon : ∀ c' W a', UN B c' W a' S1 0 → Calls Tryz.prog 25 #[.pointer (some ⟨a'.tb, 0, none⟩), .int .i64 n, .int .u8 cls] W fun e w' => e = .returned (.bool false) ∧ Mod (fun _ => False) W w') (hsw : al = true → S1.now.c = false)
    (RR : Int → Int → Int → Int → Bool → List Int → UA → US → Prop)
    (hrun : ∀ c' W a', UN B c' W a' S1 0 → a'.u = a.u → a'.wb = a.wb → UX B c c' w W → Calls Tryz.prog 28 #[.pointer (some ⟨a.u, 0, none⟩), .int .i64 n, .agg (cmA cm), P] W (ResP B c' W a.u RR)) :
    Calls Tryz.prog 10 #[.pointer (some ⟨a.u, 0, none⟩), .int .i64 n, .slice (some ⟨ab, 0, none⟩) na cap, P] w (ResP B c w a.u RR) := by
  replace hw := hide hw; replace hcon := hide hcon; replace hal := hide hal; replace hcl := hide hcl
  replace hrun := hide hrun
  obtain ⟨u, hu⟩ : ∃ u, u = a.u := ⟨_, rfl⟩
  have hd0 : decide ((n : Int) < 0) = false := by simp
  have hd8 : decide ((8 : Int) ≤ n) = false := by simp; omega
  have hablt := hr.lt0 hna
  have hult : u < w.heap.size := by rw [hu]; exact h.ult
  rw [← hu] at hrun ⊢
  replace h := hide h; replace hst := hide hst; replace hpa := hide hpa; replace hr := hide hr; replace hu := hide hu; replace hab := hide hab
  go_enter Tryz.func10, Tryz.ntmps10
  go_wp2_with (first
    | (refine list_al 35 _ new35' rfl rfl ?_
       intro w1 g8 hg8 h81 m1 hz1
       have U1 := (h.out.keep m1).1
       have X1 := (h.out.keep m1).2
       obtain ⟨k5, -, -, -, -, -, -, -, -⟩ := U1.cells
       obtain ⟨cn, hcn⟩ := U1.own.1
       have hct := count_any a S.prot S.done 0 cn w1 hcn
       have c8 : c g8 = 0 := h.out.sup _ (by omega)
       rw [← hu.out] at k5 hct
       replace hg8 := hide hg8; replace h81 := hide h81; replace m1 := hide m1; replace hz1 := hide hz1; replace U1 := hide U1; replace X1 := hide X1; replace hct := hide hct; replace hcn := hide hcn; replace c8 := hide c8)
    | (go_at_call 20; (with_reducible refine hct.out.mono ?_); rintro e w2 ⟨rv, cm2, rfl, ub2, m2, z2⟩
       rw [hu.out] at m2
       obtain ⟨U2, X2⟩ := U1.out.self ub2 m2 z2
       have h82 := X2.keep0 h81.out c8.out
       have hs2 := hst.out c w2 U2
       have X12 := X1.out.trans X2
       rw [← hu.out] at hs2
       replace U2 := hide U2; replace X12 := hide X12; replace h82 := hide h82; replace hs2 := hide hs2; clear X2 m2 ub2 z2)
    | (go_at_call 21; (with_reducible refine hs2.out.mono ?_); rintro e w3 ⟨rfl, hL⟩
       obtain ⟨c3, a3, S3, U3, hu3, X3, hwb3, hS3⟩ := hL
       have hS3 := hS3.symm
       subst hS3
       have h83 := X3.keep0 h82.out.1 h82.out.2
       have X13 := X12.out.trans X3
       have hr3 := hr.out.mod X13.mod (fun ad e k => by obtain rfl := Option.some.inj e; exact k hab.out)
       have hp3 := hpa.out w3 hr3
       replace U3 := hide U3; replace hu3 := hide hu3; replace X13 := hide X13; replace h83 := hide h83; replace hp3 := hide hp3; replace hwb3 := hide hwb3; clear X3 hr3)
    | (go_at_call 22; (with_reducible refine hp3.out.mono ?_); rintro e w4 ⟨rfl, m4⟩
       have U4 := (U3.out.keep m4).1
       have X14 := X13.out.trans (U3.out.keep m4).2
       have h84 := m4.heap h83.out.1 (fun h => h)
       have c84 := h83.out.2
       replace U4 := hide U4; replace X14 := hide X14; replace h84 := hide h84; replace c84 := hide c84; clear m4)
    | (refine list_al 104 _ new104 rfl rfl ?_
       intro w5 g9 hg9 h95 m5 hz5
       replace hg9 := hide hg9; replace h95 := hide h95; replace m5 := hide m5; replace hz5 := hide hz5)
    | (refine list_al 33 _ new33 rfl rfl ?_
       intro w6 g10 hg10 h106 m6 hz6
       have h96 := m6.heap h95.out (fun h => h)
       replace hg10 := hide hg10; replace h106 := hide h106; replace m6 := hide m6; replace hz6 := hide hz6; replace h96 := hide h96)
    | (refine list_put 104 (.tmp 9) (.tmp 46) rfl rfl g9 (cmA cm) rfl rfl (cmA (cm0 0)) h96.out rfl size104 (cm_one _) ?_
       intro w7 h97 m7
       have h107 := m7.heap h106.out (fun e => by have := hg10.out; have := hg9.out; have := hz5.out; omega)
       replace h97 := hide h97; replace m7 := hide m7; replace h107 := hide h107)
    | (refine list_put 33 (.tmp 10) (.tmp 47) rfl rfl g10 (seA 0 0 0 false) rfl rfl (seA 0 0 0 false) h107.out rfl size33 (se_one _ _ _ _) ?_
       intro w8 h108 m8
       have h98 := m8.heap h97.out (fun e => by have := hg10.out; have := hg9.out; have := hz5.out; omega)
       have M48 : Mod (fun _ => False) w4 w8 := ((m5.out.trans m6.out (fun _ _ h => h)).trans m7.out (fun i hi e => by have := hg9.out; omega)).trans m8 (fun i hi e => by have := hg10.out; have := hz5.out; have := hg9.out; omega)
       have U8 := (U4.out.keep M48).1
       have X18 := X14.out.trans (U4.out.keep M48).2
       have h88 := M48.heap h84.out (fun h => h)
       have c98 : c3 g9 = 0 := U4.out.sup _ (by have := hg9.out; omega)
       obtain ⟨-, -, -, -, k9, -, -, -, -⟩ := U8.cells
       rw [hu3.out] at k9
       have kk : w8.cell? ⟨g9, 0, none⟩ = some (.int .u8 cm.kind) := CM.c0 h98
       have hpk := U8.peek0 n h8 hw.out
       have kk := kk
       rw [hkd] at kk
       replace h108 := hide h108; replace h98 := hide h98; replace M48 := hide M48; replace U8 := hide U8; replace X18 := hide X18; replace h88 := hide h88; replace c98 := hide c98; replace hpk := hide hpk)
    | (go_at_call 23; (with_reducible refine hpk.out.mono ?_); rintro e w9 ⟨rfl, m9⟩
       have U9 := (U8.out.keep m9).1
       have X19 := X18.out.trans (U8.out.keep m9).2
       have h89 := m9.heap h88.out (fun h => h)
       have h99 : CM w9 g9 cm := m9.heap h98.out (fun h => h)
       replace U9 := hide U9; replace X19 := hide X19; replace h89 := hide h89; replace h99 := hide h99; clear m9))
  obtain ⟨-, -, -, q8, -, -, -, -, -⟩ := U9.out.cells
  rw [hu3.out] at q8
  have s0 : w9.cell? ⟨g9, 0, none⟩ = some (.int .u8 k) := by rw [h99.out.c0, hkd]
  have hS : ∀ W, Mod (fun _ => False) w9 W → W.cell? ⟨u, 8, none⟩ = some (.pointer (some ⟨a3.tb, 0, none⟩)) ∧ W.cell? ⟨g9, 0, none⟩ = some (.int .u8 k) := fun W m => ⟨m.cell q8 (fun h => h), m.cell s0 (fun h => h)⟩
  clear q8 s0
  have hcla := fun W => class_any k cls hcl.out W
  have hco9 := fun W (m : Mod (fun _ => False) w9 W) => hcon.out c3 W a3 (U9.out.keep m).1
  replace hS := hide hS; replace hcla := hide hcla; replace hco9 := hide hco9
  go_region_held3 (fun w' => w'.cell? ⟨u, 8, none⟩ = some (.pointer (some ⟨a3.tb, 0, none⟩)) ∧ w'.cell? ⟨g9, 0, none⟩ = some (.int .u8 k))
    (first | exact hS.out _ ((Mod.refl _ w9).drew) | exact hS.out _ M910.out)
    (first
    | (go_at_call 17; (with_reducible refine (hcla.out _).mono ?_); rintro e w' ⟨rfl, rfl⟩)
    | (go_at_call 25; (with_reducible refine (hco9.out _ ((Mod.refl _ w9).drew)).mono ?_); rintro e w10 ⟨rfl, m10⟩
       have M910 : Mod (fun _ => False) w9 w10 := ((Mod.refl _ w9).drew).trans m10 (fun _ _ h => h)
       replace M910 := hide M910; clear m10))
  have U10 := (U9.out.keep M910.out).1
  have X110 := X19.out.trans (U9.out.keep M910.out).2
  have h810 := M910.out.heap h89.out (fun h => h)
  have h910 : CM w10 g9 cm := M910.out.heap h99.out (fun h => h)
  obtain ⟨-, -, r7, -, -, -, -, -, -⟩ := U10.cells
  rw [hu3.out] at r7
  have s0 : w10.cell? ⟨g9, 0, none⟩ = some (.int .u8 k) := by rw [h910.c0, hkd]
  replace U10 := hide U10; replace X110 := hide X110; replace h810 := hide h810; replace h910 := hide h910
  have hala := fun W => alters_any k al hal.out W
  have hnow := M.now_some a3.pg S1.now S1.saved w10 U10.out.pgs.1
  have hf2 := M.field2 S1.now.a S1.now.b S1.now.c
  obtain ⟨sw, hsw2⟩ : ∃ sw, sw = S1.now.c := ⟨_, rfl⟩
  rw [← hsw2] at hnow hf2 hsw
  have hru10 := fun W (m : Mod (fun _ => False) w10 W) => hrun.out c3 W a3 (U10.out.keep m).1 (by rw [hu3.out]) hwb3.out (X110.out.trans (U10.out.keep m).2)
  cases al
  case' true =>
    have hsw := hsw rfl
    subst hsw
  all_goals
    replace hala := hide hala; replace hnow := hide hnow; replace hru10 := hide hru10; replace hsw2 := hide hsw2
    go_wp2_with (first
      | (go_at_call 26; (with_reducible refine (hala.out _).mono ?_); rintro e w' ⟨rfl, rfl⟩)
      | (go_at_call 27; (with_reducible refine hnow.out.mono ?_); rintro e w11 ⟨rfl, m11⟩
         have U11 := (U10.out.keep m11).1
         have h811 := m11.heap h810.out (fun h => h)
         have h911 : CM w11 g9 cm := m11.heap h910.out (fun h => h)
         have hru := hru10.out w11 m11
         have X111 := X110.out.trans (U10.out.keep m11).2
         have M11 := m11
         replace U11 := hide U11; replace h811 := hide h811; replace h911 := hide h911; replace hru := hide hru; replace X111 := hide X111; replace M11 := hide M11; clear m11)
      | (refine list_whole 104 (.tmp 9) rfl rfl ⟨g9, 0, none⟩ (cmA cm) rfl (load_whole h911.out Tryz.underlying104 rfl size104) ?_)
      | (refine list_whole 104 (.tmp 9) rfl rfl ⟨g9, 0, none⟩ (cmA cm) rfl (load_whole h910.out Tryz.underlying104 rfl size104) ?_
         have hru := hru10.out w10 (Mod.refl _ _)
         have h811 := h810.out
         have X111 := X110.out
         have M11 : Mod (fun _ => False) w10 w10 := Mod.refl _ _
         replace h811 := hide h811; replace hru := hide hru; replace X111 := hide X111; replace M11 := hide M11)
      | (go_at_call 28; (with_reducible refine hru.out.mono ?_); rintro e w12 ⟨st, key, code, info, has, A, dn, dc, D, c12, a12, S12, rfl, hrow, hown, U12, hu12, X12, hRR⟩
         have h812 := X12.keep0 h811.out c84.out
         replace hrow := hide hrow; replace hown := hide hown; replace U12 := hide U12; replace hu12 := hide hu12; replace hRR := hide hRR; replace h812 := hide h812; replace X12 := hide X12)
      | (refine list_put 35 (.tmp 8) (.tmp 116) rfl rfl g8 (rcA st key code info has (.slice A dn dc)) rfl rfl zs35 h812.out.1 rfl size35 (rc_one _ _ _ _ _ _ _ _) ?_
         intro w13 h13 m13; replace h13 := hide h13; replace m13 := hide m13))
    have U13 := U12.out.mod m13.out (fun k e => by rw [e]; exact h812.out.2)
    have X113 := (X111.out.trans X12.out).own m13.out (by rw [hg8.out]; exact Nat.le_refl _) h.out.big
    have hs11 := X111.out.mod.size
    have hl8 := (Array.getElem?_eq_some_iff.1 h811.out).1
    exact bodyPost_ret (v := rsA st key code info has (.slice A dn dc)) (results_one rfl rfl (load_whole h13.out Tryz.underlying35 rfl size35)) rfl ⟨st, key, code, info, has, A, dn, dc, D, c12, a12, S12, rfl, hrow.out.mod m13.out (fun k hk e => by
      have := (hown.out k hk).1
      omega), fun k hk => ⟨Nat.le_trans hs11 (hown.out k hk).1, (hown.out k hk).2⟩, U13, hu12.out, X113, hRR.out⟩
end Go.Proofs.YtjkpelbhhapebaaGreatDoor
