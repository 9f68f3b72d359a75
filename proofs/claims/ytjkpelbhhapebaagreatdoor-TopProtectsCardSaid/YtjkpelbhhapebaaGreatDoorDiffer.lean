/-
  sbc.differ, walked: the first byte in which two lists of blocks differ. Condition: lists of one length, well.
-/
import Derived.Test.YtjkpelbhhapebaaGreatDoorSbcRead
import Derived.BigQuiet
namespace Go.Proofs.YtjkpelbhhapebaaGreatDoor
open Go.RowKit
open W (Nxt)
set_option maxRecDepth 100000
/-- The place of the first byte that differs, or -1. -/
def Fd (x y : List Int) (r : Int) : Prop := (r = -1 ∧ ∀ j, j < x.length → gi x j = gi y j) ∨ ∃ k : Nat, k < x.length ∧ r = k ∧ gi x k ≠ gi y k ∧ ∀ j, j < k → gi x j = gi y j
theorem packL_size (l : List Bl) (hb : ∀ b ∈ l, b.d.length = 16) : (packL false l).length = 16 * l.length := by
  induction l with
  | nil => simp [packL]
  | cons b l ih =>
    have h1 := ih fun b hb' => hb b (List.mem_cons_of_mem _ hb')
    have h2 := hb b List.mem_cons_self
    simp only [packL, List.flatMap_cons, List.length_append, List.length_cons, packB] at h1 ⊢
    simp [h2]
    simp at h1
    omega
set_option maxHeartbeats 4000000 in
theorem differ_any (A1 A2 : Option Addr) (n c1 c2 : Nat) (a b : List Bl) (w : World) (ha : Rd w 19 encB A1 n a) (hb : Rd w 19 encB A2 n b) (hn : n ≤ 4096) (oka : ∀ x ∈ a, OkBl x) (okb : ∀ x ∈ b, OkBl x) :
    Calls Tryz.prog 141 #[.slice A1 n c1, .slice A2 n c2] w fun e w' => ∃ r, e = .returned (.int .i64 r) ∧ Fd (packL false a) (packL false b) r ∧ Mod (fun _ => False) w w' := by
  have hx := pack_any false A1 n c1 a w ha hn oka
  have lx : (packL false a).length = 16 * n := by rw [packL_size a fun x h => (oka x h).1, ha.1]
  have ly : (packL false b).length = 16 * n := by rw [packL_size b fun x h => (okb x h).1, hb.1]
  generalize packL false a = x at *
  have hy := fun w' (m : Mod (fun _ => False) w w') => pack_any false A2 n c2 b w' (hb.mod m (fun _ _ h => h)) hn okb
  generalize packL false b = y at *
  replace ha := hide ha; replace hb := hide hb; replace hx := hide hx; replace hy := hide hy; replace oka := hide oka; replace okb := hide okb; replace lx := hide lx; replace ly := hide ly
  go_enter Tryz.func141, Tryz.ntmps141
  go_wp2_with (first
    | (go_at_call 102; (with_reducible refine hx.out.mono ?_); rintro e w1 ⟨v1, rfl, r1, m1, o1⟩
       obtain ⟨X, xc, rfl, -, -⟩ := r1.slice
       have hy2 := hy.out w1 m1
       replace hy2 := hide hy2; replace r1 := hide r1; replace m1 := hide m1; replace o1 := hide o1)
    | (go_at_call 102; (with_reducible refine hy2.out.mono ?_); rintro e w2 ⟨v2, rfl, r2, m2, o2⟩
       obtain ⟨Y, yc, rfl, -, -⟩ := r2.slice
       replace r2 := hide r2; replace m2 := hide m2; replace o2 := hide o2))
  have rx := (r1.out.mod m2.out (fun _ _ h => h)).rd (ic_len _) rfl
  have ry := r2.out.rd (ic_len _) rfl
  replace rx := hide rx; replace ry := hide ry
  obtain ⟨nx, hnx⟩ : ∃ nx, nx = x.length := ⟨_, rfl⟩
  have hnx2 : y.length = nx := by rw [hnx, lx.out, ly.out]
  have hnxb : nx ≤ 65536 := by have := lx.out; omega
  rw [← hnx, hnx2]
  replace hnx := hide hnx; replace hnx2 := hide hnx2
  go_loopw [14] (fun v wr => ∃ k : Nat, k ≤ nx ∧ v = .int .i64 k ∧ Hid ((∀ j, j < k → gi x j = gi y j) ∧ ∃ m, wr = w2.drewN m)) (fun v _ => nx - (intOf v).toNat)
  case atStart => exact ⟨0, by omega, rfl, hide ⟨fun j hj => by omega, 0, rfl⟩⟩
  case round =>
    obtain ⟨k, hk, rfl, hR⟩ := hrel
    by_cases hlk : k < nx
    · obtain ⟨hRe, m, rfl⟩ := hR.out
      obtain ⟨ax, rfl, cx⟩ := rx.out.int k (by rw [← hnx.out]; exact hlk)
      obtain ⟨ay, rfl, cy⟩ := ry.out.int k (by rw [hnx2.out]; exact hlk)
      have cx2 : w2.cell? (ax.add k) = some (.int .u8 (gi x k)) := cx
      have cy2 : w2.cell? (ay.add k) = some (.int .u8 (gi y k)) := cy
      clear cx cy
      replace hRe := hide hRe
      by_cases he : gi x k = gi y k
      · have hne : (gi x k != gi y k) = false := by simp [he]
        replace he := hide he
        go_wp2_with fail
        go_quiet (fail)
        go_wp2_with fail
        go_roundw
        case rel =>
          refine ⟨k + 1, by omega, by go_num, hide ⟨fun j hj => ?_, _, rfl⟩⟩
          by_cases hjk : j = k
          · subst hjk; exact he.out
          · exact hRe.out j (by omega)
        case measure => simp [intOf]; omega
      · have hne : (gi x k != gi y k) = true := by simp [he]
        replace he := hide he
        go_wp2_with fail
        go_quiet (fail)
        go_wp2_with fail
        go_ret
        exact ⟨_, rfl, .inr ⟨k, by rw [← hnx.out]; exact hlk, rfl, fun e => he.out e, hRe.out⟩, ((m1.out.trans m2.out (fun _ _ h => h)).drewN _).drewN _⟩
    · obtain rfl : k = nx := by omega
      obtain ⟨hRe, m, rfl⟩ := hR.out
      replace hRe := hide hRe
      go_wp2_with fail
      go_ret
      exact ⟨_, rfl, .inl ⟨rfl, fun j hj => hRe.out j (by rw [hnx.out]; exact hj)⟩, (m1.out.trans m2.out (fun _ _ h => h)).drewN _⟩
end Go.Proofs.YtjkpelbhhapebaaGreatDoor
