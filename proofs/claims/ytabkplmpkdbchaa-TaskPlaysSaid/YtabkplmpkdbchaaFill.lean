/-
  The walks of the laws' awake and fill. Condition: a row of attributes that reads as bytes.
-/
import Derived.Test.YtabkplmpkdbchaaOps
import Derived.Deep.RegionWith
namespace Go.Proofs.Ytabkplmpkdbchaa
open Go.RowKit

theorem S.grow {w w' : World} {b : Nat} {l : List T} {aca : Int} {F : Nat → Prop} (h : S w' b l aca (Plus F w w')) (hF : ∀ k, w.heap.size ≤ k → F k) : S w' b l aca F :=
  h.mono fun k hk => by
    rcases hk with hk | ⟨hk, _⟩
    · exact hk
    · exact hF k hk

set_option maxHeartbeats 400000 in
theorem awake_any (w : World) : Calls Try.prog 9 #[] w fun e w' => e = .returned (.bool true) ∧ Mod (fun _ => False) w w' := by
  go_enter Try.func9, Try.ntmps9
  go_wp2_with (first
    | (go_at_call 15; refine (new_any _).mono ?_; rintro e w1 ⟨rfl, hs1, m1⟩; replace hs1 := hide hs1; replace m1 := hide m1)
    | (go_at_call 12; refine (enter_some _ ⟨0, 5, 0, false⟩ _ _ _ _ (by decide) hs1.out).mono ?_; rintro e w2 ⟨rfl, hs2, m2⟩; replace hs2 := hide hs2; replace m2 := hide m2)
    | (go_at_call 16; refine (ready_some _ _ _ _ _ (by decide) hs2.out).mono ?_; rintro e w3 ⟨v, rfl, h3, m3, -⟩; obtain ⟨A, c, hv, -, -⟩ := h3.slice; replace hv : v = .slice A 1 c := hv; subst hv; replace m3 := hide m3))
  go_ret
  exact ⟨rfl, (m1.out.plus m2.out).trans m3.out (by simp)⟩

/-- The task that fill makes of the attribute a at place i. -/
def filT (a : Int) (i : Nat) : T := ⟨a / 4 % 3, i, a % 3, false⟩
def fillL (attrs : List Int) (k : Nat) : List T := (List.range k).map fun i => filT (gi attrs i) i
theorem fillL_length (attrs : List Int) (k : Nat) : (fillL attrs k).length = k := by simp [fillL]
theorem fillL_gi (attrs : List Int) (k i : Nat) (h : i < k) : gi (fillL attrs k) i = filT (gi attrs i) i := by
  rw [gi_eq _ _ (by rw [fillL_length]; exact h)]
  simp [fillL]
theorem fillL_fnd (attrs : List Int) (k : Nat) (nx tag : Int) (h : (k : Int) ≤ tag) : fnd (fillL attrs k) nx tag = -1 :=
  fnd_no fun j hj => by
    rw [fillL_length] at hj
    rw [fillL_gi _ _ _ hj]
    have : ¬ (j : Int) = tag := by omega
    simp [hit, filT, this]
theorem fillL_ent (attrs : List Int) (k : Nat) (h : k < 16) : ent (fillL attrs k) (-1) (filT (gi attrs k) k) = (0, 0, fillL attrs (k + 1)) := by
  have h1 : ¬ ((filT (gi attrs k) k).nx < 0 ∨ 8 ≤ (filT (gi attrs k) k).nx ∨ 3 < (filT (gi attrs k) k).at_) := by
    show ¬ (gi attrs k / 4 % 3 < 0 ∨ 8 ≤ gi attrs k / 4 % 3 ∨ 3 < gi attrs k % 3)
    omega
  have h2 : ¬ barred (-1) (filT (gi attrs k) k) := by
    rintro (⟨h, _⟩ | ⟨_, h⟩)
    · omega
    · have : gi attrs k % 3 = 3 := h
      omega
  have h3 : fnd (fillL attrs k) (filT (gi attrs k) k).nx (filT (gi attrs k) k).tag = -1 := fillL_fnd attrs k _ _ (Int.le_refl _)
  rw [ent, if_neg h1, h3, if_neg (by decide), if_neg h2, fillL_length, if_neg (by omega)]
  simp [fillL, List.range_succ, filT]

set_option maxHeartbeats 1000000 in
theorem fill_any (A : Option Addr) (len cap : Nat) (attrs : List Int) (w : World) (hr : Rd w 1 (ic .u8) A len attrs) (hb : ∀ a ∈ attrs, 0 ≤ a ∧ a ≤ 255) :
    Calls Try.prog 10 #[.slice A len cap] w fun e w' => ∃ b, e = .returned (.pointer (some ⟨b, 0, none⟩)) ∧ S w' b (fillL attrs (min len 16)) (-1) (fun k => w.heap.size ≤ k) ∧ Below w.heap.size w w' := by
  replace hr := hide hr
  replace hb := hide hb
  go_enter Try.func10, Try.ntmps10
  go_wp2_with (go_at_call 15; refine (new_any _).mono ?_; rintro e w1 ⟨rfl, hs1, m1⟩; replace hs1 := hide hs1; replace m1 := hide m1)
  generalize hbb : w.heap.size = b0 at *
  have hP : S w1 b0 (fillL attrs 0) (-1) (fun k => b0 ≤ k) ∧ Below b0 w w1 := ⟨hs1.out.mono fun k hk => (by
    rcases hk with hk | ⟨hk, _⟩
    · exact hk.elim
    · rw [hbb] at hk; exact hk), m1.out.below (by omega) (by simp)⟩
  clear hs1 m1
  replace hP := hide hP
  replace hbb := hide hbb
  go_loopw [4] (fun u wr => ∃ k : Nat, k ≤ len ∧ k ≤ 16 ∧ u = .int .i64 k ∧ Hid (S wr b0 (fillL attrs k) (-1) (fun k => b0 ≤ k) ∧ Below b0 w wr)) (fun u _ => len - (intOf u).toNat)
  case atStart => exact ⟨0, by omega, by omega, rfl, hP⟩
  case round =>
    obtain ⟨k, hk, hk16, rfl, hR⟩ := hrel
    clear hP
    by_cases hlt : k < len ∧ k < 16
    · obtain ⟨hlt, hlt16⟩ := hlt
      obtain ⟨ad, rfl, hck⟩ := hr.out.int k hlt
      have hckr : wr.cell? (ad.add k) = some (.int .u8 (gi attrs k)) := (hR.out.2.cell (by rw [← hbb.out]; exact World.block_lt_of_cell? w _ hck)).trans hck
      have hbk := hb.out (gi attrs k) (by rw [gi_eq attrs k (by rw [hr.out.1]; exact hlt)]; exact List.getElem_mem _)
      obtain ⟨q0, q1⟩ := hbk
      have e1 : IntKind.u8.wrap ((gi attrs k).tdiv 4) = gi attrs k / 4 := by rw [Int.tdiv_eq_ediv_of_nonneg q0]; exact IntWalk.u8_in _ (by omega)
      have e2 : (gi attrs k / 4).tmod 3 = gi attrs k / 4 % 3 := Int.tmod_eq_emod_of_nonneg (by omega)
      have e3 : IntKind.u32.wrap (k : Int) = (k : Int) := IntWalk.u32_in _ (by omega)
      have e4 : (gi attrs k).tmod 3 = gi attrs k % 3 := Int.tmod_eq_emod_of_nonneg q0
      have e5 : IntKind.i64.wrap (gi attrs k / 4) = gi attrs k / 4 := IntWalk.i64_in _ (by omega)
      have hs2 := hR.out.1
      have hsz : b0 ≤ wr.heap.size := by have := hR.out.2.size; rw [hbb.out] at this; exact this
      have hcall : Calls Try.prog 12 #[.pointer (some ⟨b0, 0, none⟩), .agg #[.int .i64 (gi attrs k / 4 % 3), .int .u32 (k : Int), .int .u8 (gi attrs k % 3), .bool false]] wr.drew fun e w' => ∃ x y, e = .returned (.tuple #[x, y]) ∧ Hid (S w' b0 (fillL attrs (k + 1)) (-1) (fun k => b0 ≤ k) ∧ Below b0 w w') :=
        (enter_some b0 (filT (gi attrs k) k) (fillL attrs k) (-1) _ wr.drew (by rw [fillL_length]; omega) hs2).mono fun e w' ⟨he, h1, h2⟩ => ⟨_, _, he, hide ⟨by
          rw [fillL_ent attrs k hlt16] at h1
          exact h1.grow fun j hj => (Nat.le_trans hsz hj : b0 ≤ j), (hR.out.2.trans (Mod.below (Mod.drew (Mod.refl (fun k => b0 ≤ k) wr)) hsz fun _ h => h)).trans (h2.below hsz fun _ h => h)⟩⟩
      clear hs2
      replace hcall := hide hcall
      go_wp2_with fail
      go_region_with (go_at_call 12; (with_reducible refine hcall.out.mono ?_); rintro e w2 ⟨x, y, rfl, h2⟩)
      all_goals
        go_wp2_with fail
        go_roundw
        case rel => exact ⟨k + 1, by omega, by omega, by go_num, h2⟩
        case measure => simp [intOf]; omega
    · have hmin : k = min len 16 := by omega
      have hR' : S wr b0 (fillL attrs (min len 16)) (-1) (fun k => b0 ≤ k) ∧ Below b0 w wr := by rw [← hmin]; exact hR.out
      replace hR' := hide hR'
      have hcases : k = len ∨ (k < len ∧ k = 16) := by omega
      clear hmin hR hlt
      rcases hcases with rfl | ⟨hk1, rfl⟩
      all_goals
        go_wp2_with fail
        go_ret
        rw [hbb.out]
        exact ⟨_, rfl, hR'.out⟩
end Go.Proofs.Ytabkplmpkdbchaa
