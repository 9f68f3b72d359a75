/-
  The walk of be.Odd where no bit is odd, and of be.Within. Condition: slices that read as bytes.
-/
import Derived.Test.YtjkpelbhhapebaaGreatDoorBe
namespace Go.Proofs.YtjkpelbhhapebaaGreatDoor
open Go.RowKit
set_option maxRecDepth 100000
/-- The bits of byte i that the mask has not. -/
def oddB (L M : List Int) (i : Nat) : Int := if i < M.length then bits BinOp.andNot IntKind.u8 (gi L i) (gi M i) else gi L i
set_option maxHeartbeats 1000000 in
theorem odd_none (A B : Option Addr) (n cap m capm : Nat) (L M : List Int) (w : World) (hr : Rd w 1 (ic .u8) A n L) (hm : Rd w 1 (ic .u8) B m M) (hn : n ≤ 1000000) (_hm2 : m ≤ 1000000) (hodd : ∀ i, i < n → oddB L M i = 0) :
    Calls Tryz.prog 46 #[.slice A n cap, .slice B m capm] w fun e w' => e = .returned (.tuple #[.int .i64 (-1), .int .i64 (-1)]) ∧ w = w' := by
  have hM : M.length = m := hm.1
  replace hr := hide hr; replace hm := hide hm; replace hodd := hide hodd; replace hM := hide hM
  go_enter Tryz.func46, Tryz.ntmps46
  go_wp2_with fail
  go_loop [6, 7, 8, 11] (fun _ _ _ v => ∃ k : Nat, k ≤ n ∧ v = .int .i64 k) (fun _ _ _ v => n - (intOf v).toNat)
  case atStart => exact ⟨0, by omega, rfl⟩
  case round =>
    obtain ⟨k, hk, rfl⟩ := hrel
    by_cases hlt : k < n
    · have ho := hodd.out k hlt
      obtain ⟨ad, rfl, hc⟩ := hr.out.int k hlt
      unfold oddB at ho
      rw [hM.out] at ho
      by_cases hkm : k < m
      · rw [if_pos hkm] at ho
        obtain ⟨bd, rfl, hcm⟩ := hm.out.int k hkm
        generalize gi L k = b at *
        generalize gi M k = x at *
        go_wp2_with fail
        go_loop [8] (fun u => ∃ j : Nat, j ≤ 8 ∧ u = .int .i64 ((j : Int) - 1)) (fun u => (intOf u + 1).toNat)
        case atStart => exact ⟨8, by omega, rfl⟩
        case round =>
          obtain ⟨j, hj, rfl⟩ := hrel
          by_cases hj0 : 0 < j
          · have hz : (bits BinOp.and IntKind.u8 (0 / 2 ^ (j - 1)) 1 == 1) = false := by rw [Int.zero_ediv]; decide
            go_wp2_with fail
            go_round
            case rel => exact ⟨j - 1, by omega, int_eq (by omega)⟩
            case measure => simp [intOf]; omega
          · obtain rfl : j = 0 := by omega
            go_wp2_with fail
            go_round
            case rel => exact ⟨k + 1, by omega, by go_num⟩
            case measure => simp [intOf]; omega
      · rw [if_neg hkm] at ho
        rw [ho] at hc
        clear ho
        go_wp2_with fail
        go_loop [8] (fun u => ∃ j : Nat, j ≤ 8 ∧ u = .int .i64 ((j : Int) - 1)) (fun u => (intOf u + 1).toNat)
        case atStart => exact ⟨8, by omega, rfl⟩
        case round =>
          obtain ⟨j, hj, rfl⟩ := hrel
          by_cases hj0 : 0 < j
          · have hz : (bits BinOp.and IntKind.u8 (0 / 2 ^ (j - 1)) 1 == 1) = false := by rw [Int.zero_ediv]; decide
            go_wp2_with fail
            go_round
            case rel => exact ⟨j - 1, by omega, int_eq (by omega)⟩
            case measure => simp [intOf]; omega
          · obtain rfl : j = 0 := by omega
            go_wp2_with fail
            go_round
            case rel => exact ⟨k + 1, by omega, by go_num⟩
            case measure => simp [intOf]; omega
    · obtain rfl : k = n := by omega
      go_wp2_with fail
      go_ret2
      exact ⟨rfl, rfl⟩
set_option maxHeartbeats 400000 in
theorem within_ok (lba n blocks : Int) (w : World) (h0 : 0 ≤ lba) (h1 : 0 ≤ n) (h2 : lba + n ≤ blocks) (h3 : blocks ≤ 1000000) : Calls Tryz.prog 97 #[.int .u64 lba, .int .u64 n, .int .u64 blocks] w fun e w' => e = .returned (.bool true) ∧ w = w' := by
  have d1 : decide (lba ≤ blocks) = true := by simp; omega
  have d2 : decide (n ≤ blocks - lba) = true := by simp; omega
  go_enter Tryz.func97, Tryz.ntmps97
  go_wp2
  go_ret
  exact ⟨rfl, rfl⟩
end Go.Proofs.YtjkpelbhhapebaaGreatDoor
