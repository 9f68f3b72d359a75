/-
  A digit's value, walked on both sides. Conditions: a byte.
-/
import Derived.Test.YtipkdhcbajcamaaText
namespace Go.Proofs.Ytipkdhcbajcamaa
open Go.RowKit
set_option maxHeartbeats 1000000 in
theorem digit_any (c : Int) (w : World) (h0 : 0 ≤ c) (h1 : c ≤ 255) : Calls Try.prog 20 #[.int .u8 c] w fun e w' => e = .returned (.int .i64 (dv c)) ∧ w' = w := by
  by_cases a : 48 ≤ c ∧ c ≤ 57
  · obtain ⟨a1, a2⟩ := a
    have e : dv c = c - 48 := by unfold dv; rw [if_pos ⟨a1, a2⟩]
    rw [e]
    clear e
    go_enter Try.func20, Try.ntmps20
    go_wp2
    go_ret
    exact ⟨rfl, rfl⟩
  · by_cases b : 97 ≤ c ∧ c ≤ 102
    · obtain ⟨b1, b2⟩ := b
      have e : dv c = c - 87 := by unfold dv; rw [if_neg a, if_pos ⟨b1, b2⟩]
      rw [e]
      clear e
      have d2 : decide (c ≤ 57) = false := by simp; omega
      clear a
      go_enter Try.func20, Try.ntmps20
      go_wp2
      go_ret
      exact ⟨ret_int (by omega), rfl⟩
    · by_cases d : 65 ≤ c ∧ c ≤ 70
      · obtain ⟨d1, d2⟩ := d
        have e : dv c = c - 55 := by unfold dv; rw [if_neg a, if_neg b, if_pos ⟨d1, d2⟩]
        rw [e]
        clear e
        have q1 : decide (c ≤ 57) = false := by simp; omega
        have q2 : decide (97 ≤ c) = false := by simp; omega
        clear a b
        go_enter Try.func20, Try.ntmps20
        go_wp2
        go_ret
        exact ⟨ret_int (by omega), rfl⟩
      · have e : dv c = -1 := by unfold dv; rw [if_neg a, if_neg b, if_neg d]
        rw [e]
        clear e
        go_enter Try.func20, Try.ntmps20
        have k : c < 48 ∨ (57 < c ∧ c < 65) ∨ (70 < c ∧ c < 97) ∨ 102 < c := by omega
        clear a b d
        rcases k with k | ⟨k1, k2⟩ | ⟨k1, k2⟩ | k
        all_goals
          go_wp2
          go_ret
          exact ⟨rfl, rfl⟩

def hexU : List Int := [48, 49, 50, 51, 52, 53, 54, 55, 56, 57, 65, 66, 67, 68, 69, 70]
def digU : ByteArray := { data := #[48, 49, 50, 51, 52, 53, 54, 55, 56, 57, 65, 66, 67, 68, 69, 70] }
theorem digU_at (i : Int) (h0 : 0 ≤ i) (h1 : i < 16) (k : IntKind) (w : World) : (Instr.index 9 (.string digU) (.int k i)).run Try.prog w = .ok (.int .u8 (gi hexU i.toNat)) w := by
  obtain ⟨n, rfl⟩ := Int.eq_ofNat_of_zero_le h0
  have hn : n < 16 := by omega
  rw [run_index_string (w := w) 9 digU k n Try.underlying9]
  obtain rfl | rfl | rfl | rfl | rfl | rfl | rfl | rfl | rfl | rfl | rfl | rfl | rfl | rfl | rfl | rfl : n = 0 ∨ n = 1 ∨ n = 2 ∨ n = 3 ∨ n = 4 ∨ n = 5 ∨ n = 6 ∨ n = 7 ∨ n = 8 ∨ n = 9 ∨ n = 10 ∨ n = 11 ∨ n = 12 ∨ n = 13 ∨ n = 14 ∨ n = 15 := by omega
  all_goals rfl
theorem dv_hexU (i : Nat) (h : i < 16) : dv (gi hexU i) = i := by
  have : ∀ j : Fin 16, dv (gi hexU j.val) = (j.val : Int) := by decide
  exact this ⟨i, h⟩
theorem dv_none {c : Int} (h0 : 0 ≤ c) (h1 : c ≤ 255) (h : ∀ j, j < 16 → gi hexC j ≠ c ∧ gi hexU j ≠ c) : dv c = -1 := by
  have k : ∀ j : Fin 256, dv (j.val : Int) = -1 ∨ ((dv (j.val : Int)).toNat < 16 ∧ (gi hexC (dv (j.val : Int)).toNat = (j.val : Int) ∨ gi hexU (dv (j.val : Int)).toNat = (j.val : Int))) := by decide +kernel
  obtain ⟨n, rfl⟩ := Int.eq_ofNat_of_zero_le h0
  rcases k ⟨n, by omega⟩ with k | ⟨k1, k2⟩
  · exact k
  · obtain ⟨a, b⟩ := h _ k1
    rcases k2 with k2 | k2
    · exact absurd k2 a
    · exact absurd k2 b
set_option maxHeartbeats 1000000 in
theorem value_any (c : Int) (w : World) (h0 : 0 ≤ c) (h1 : c ≤ 255) : Calls Try.prog 21 #[.int .u8 c] w fun e w' => e = .returned (.int .i64 (dv c)) ∧ w' = w := by
  go_enter Try.func21, Try.ntmps21
  go_wp2
  go_loop [5] (fun i => ∃ k : Nat, k ≤ 16 ∧ i = .int .i64 k ∧ Hid (∀ j, j < k → gi hexC j ≠ c ∧ gi hexU j ≠ c)) (fun i => 16 - (intOf i).toNat)
  case atStart => exact ⟨0, by omega, rfl, hide (fun j hj => by omega)⟩
  case round =>
    obtain ⟨k, hk, rfl, hno⟩ := hrel
    by_cases hlt : k < 16
    · have i1 := dig_at (k : Int) (by omega) (by omega) .i64
      have i2 := digU_at (k : Int) (by omega) (by omega) .i64
      rw [Int.toNat_natCast] at i1 i2
      have e1 := (dv_hex k hlt).1
      have e2 := dv_hexU k hlt
      unfold digS at i1
      unfold digU at i2
      by_cases a : gi hexC k = c
      · rw [a] at e1 i1
        have hb : (c == c) = true := by simp
        replace e1 := hide e1
        replace e2 := hide e2
        clear a hb
        go_wp2
        go_ret
        exact ⟨ret_int (by rw [e1.out]), rfl⟩
      · have a1 : (gi hexC k == c) = false := by simpa using a
        by_cases b : gi hexU k = c
        · rw [b] at e2 i2
          replace e1 := hide e1
          replace e2 := hide e2
          replace a := hide a
          clear b
          go_wp2
          go_ret
          exact ⟨ret_int (by rw [e2.out]), rfl⟩
        · have b1 : (gi hexU k == c) = false := by simpa using b
          replace e1 := hide e1
          replace e2 := hide e2
          have hno2 : Hid (∀ j, j < k + 1 → gi hexC j ≠ c ∧ gi hexU j ≠ c) := hide (fun j hj => by
            by_cases e : j = k
            · subst e; exact ⟨a, b⟩
            · exact hno.out j (by omega))
          clear a b
          go_wp2
          go_round
          case rel => exact ⟨k + 1, by omega, by go_num, hno2⟩
          case measure => simp [intOf]; omega
    · have hk16 : k = 16 := by omega
      have hd := dv_none h0 h1 (by rw [hk16] at hno; exact hno.out)
      replace hk16 := hide hk16
      replace hd := hide hd
      go_wp2
      go_ret
      exact ⟨ret_int (by rw [hd.out]), rfl⟩
end Go.Proofs.Ytipkdhcbajcamaa
