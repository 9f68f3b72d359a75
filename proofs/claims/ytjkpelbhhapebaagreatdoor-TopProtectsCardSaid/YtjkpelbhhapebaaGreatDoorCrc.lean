/-
  The walk of crc.Add16 and C16: the sum of bytes as a function of them. Condition: a slice that reads as bytes.
-/
import Derived.Test.YtjkpelbhhapebaaGreatDoorMem
import Derived.Laws.Closers25b
namespace Go.Proofs.YtjkpelbhhapebaaGreatDoor
open Go.RowKit
set_option maxRecDepth 100000
/-- One bit more. -/
def turn16 (y : Int) : Int := if (y / 2 ^ 15 == 1) = true then bits BinOp.xor IntKind.u16 (IntKind.u16.wrap (y * 2)) 35767 else IntKind.u16.wrap (y * 2)
def turns16 (y : Int) : Nat → Int
  | 0 => y
  | k + 1 => turn16 (turns16 y k)
/-- One byte more. -/
def byte16 (x b : Int) : Int := turns16 (bits BinOp.xor IntKind.u16 x (b * 256)) 8
def sum16 (s : Int) (l : List Int) : Int := l.foldl byte16 s
def c16 (l : List Int) : Int := sum16 0 l
theorem turn16_b (y : Int) : 0 ≤ turn16 y ∧ turn16 y ≤ 65535 := by
  unfold turn16
  split
  · exact ⟨bits_lo_u16 _ _ _, bits_hi_u16 _ _ _⟩
  · have := wrap_within IntKind.u16 (y * 2)
    exact this
theorem turns16_b (y : Int) (h : 0 ≤ y ∧ y ≤ 65535) (k : Nat) : 0 ≤ turns16 y k ∧ turns16 y k ≤ 65535 := by
  cases k with
  | zero => exact h
  | succ k => exact turn16_b _
theorem byte16_b (x b : Int) : 0 ≤ byte16 x b ∧ byte16 x b ≤ 65535 := turns16_b _ ⟨bits_lo_u16 _ _ _, bits_hi_u16 _ _ _⟩ 8
theorem sum16_b (s : Int) (h : 0 ≤ s ∧ s ≤ 65535) : ∀ l, 0 ≤ sum16 s l ∧ sum16 s l ≤ 65535 := by
  intro l
  induction l generalizing s with
  | nil => exact h
  | cons a l ih => exact ih _ (byte16_b s a)
theorem sum16_snoc (s : Int) (l : List Int) (k : Nat) (h : k < l.length) : sum16 s (l.take (k + 1)) = byte16 (sum16 s (l.take k)) (gi l k) := by
  rw [List.take_succ_eq_append_getElem h, gi_eq l k h]
  unfold sum16
  rw [List.foldl_append]
  rfl
theorem c16_b (l : List Int) : 0 ≤ c16 l ∧ c16 l ≤ 65535 := sum16_b 0 (by omega) l
set_option maxHeartbeats 1000000 in
theorem add16_any (A : Option Addr) (n c : Nat) (l : List Int) (s : Int) (w : World) (hr : Rd w 1 (ic .u8) A n l) (hb : ∀ x ∈ l, 0 ≤ x ∧ x ≤ 255) (hs : 0 ≤ s ∧ s ≤ 65535) (hn : n ≤ 1000000) :
    Calls Tryz.prog 180 #[.int .u16 s, .slice A n c] w fun e w' => e = .returned (.int .u16 (sum16 s l)) ∧ w = w' := by
  replace hr := hide hr; replace hb := hide hb
  have hsb := hide hs
  obtain ⟨hs0, hs1⟩ := hs
  go_enter Tryz.func180, Tryz.ntmps180
  go_wp2_with fail
  go_loop [0, 10] (fun u v => ∃ k : Nat, k ≤ n ∧ v = .int .i64 k ∧ u = .int .u16 (sum16 s (l.take k))) (fun _ v => n - (intOf v).toNat)
  case atStart => exact ⟨0, by omega, rfl, rfl⟩
  case round =>
    obtain ⟨k, hk, rfl, rfl⟩ := hrel
    obtain ⟨hx0, hx1⟩ := sum16_b s hsb.out (l.take k)
    by_cases hlt : k < n
    · have hsn := sum16_snoc s l k (by rw [hr.out.1]; exact hlt)
      obtain ⟨ad, rfl, hc⟩ := hr.out.int k hlt
      have hbk := hb.out (gi l k) (by rw [gi_eq l k (by rw [hr.out.1]; exact hlt)]; exact List.getElem_mem _)
      obtain ⟨b0, b1⟩ := hbk
      generalize sum16 s (l.take k) = x at *
      generalize gi l k = b at *
      obtain ⟨y0, hy0⟩ : ∃ y0, y0 = bits BinOp.xor IntKind.u16 x (b * 256) := ⟨_, rfl⟩
      have hyb : 0 ≤ y0 ∧ y0 ≤ 65535 := by rw [hy0]; exact ⟨bits_lo_u16 _ _ _, bits_hi_u16 _ _ _⟩
      have hfin : turns16 y0 8 = sum16 s (l.take (k + 1)) := by rw [hsn, hy0]; rfl
      replace hsn := hide hsn; replace hy0 := hide hy0; replace hyb := hide hyb; replace hfin := hide hfin
      go_wp2_with fail
      go_loop [0, 7, 19] (fun u _ v => ∃ j : Nat, j ≤ 8 ∧ v = .int .i64 j ∧ u = .int .u16 (turns16 y0 j)) (fun _ _ v => 8 - (intOf v).toNat)
      case atStart => exact ⟨0, by omega, rfl, int_eq hy0.out.symm⟩
      case round =>
        obtain ⟨j, hj, rfl, rfl⟩ := hrel
        by_cases hj8 : j < 8
        · obtain ⟨hz0, hz1⟩ := turns16_b y0 hyb.out j
          have hst : turns16 y0 (j + 1) = turn16 (turns16 y0 j) := rfl
          generalize turns16 y0 j = y at *
          cases ht : (y / 2 ^ 15 == 1)
          · have hy : turns16 y0 (j + 1) = IntKind.u16.wrap (y * 2) := by rw [hst, turn16, if_neg (by rw [ht]; decide)]
            replace hy := hide hy
            clear hst
            go_wp2_with fail
            go_round
            case rel => exact ⟨j + 1, by omega, by go_num, int_eq hy.out.symm⟩
            case measure => simp [intOf]; omega
          · have hy : turns16 y0 (j + 1) = bits BinOp.xor IntKind.u16 (IntKind.u16.wrap (y * 2)) 35767 := by rw [hst, turn16, if_pos ht]
            replace hy := hide hy
            clear hst
            go_wp2_with fail
            go_round
            case rel => exact ⟨j + 1, by omega, by go_num, int_eq hy.out.symm⟩
            case measure => simp [intOf]; omega
        · obtain rfl : j = 8 := by omega
          go_wp2_with fail
          go_round
          case rel => exact ⟨k + 1, by omega, by go_num, int_eq hfin.out⟩
          case measure => simp [intOf]; omega
    · obtain rfl : k = n := by omega
      have hfin : sum16 s (l.take k) = sum16 s l := by rw [List.take_of_length_le (by rw [hr.out.1]; exact Nat.le_refl _)]
      replace hfin := hide hfin
      go_wp2_with fail
      go_ret
      exact ⟨ret_int hfin.out, rfl⟩
theorem c16_any (A : Option Addr) (n c : Nat) (l : List Int) (w : World) (hr : Rd w 1 (ic .u8) A n l) (hb : ∀ x ∈ l, 0 ≤ x ∧ x ≤ 255) (hn : n ≤ 1000000) :
    Calls Tryz.prog 160 #[.slice A n c] w fun e w' => e = .returned (.int .u16 (c16 l)) ∧ w = w' := by
  have h := add16_any A n c l 0 w hr hb (by omega) hn
  replace h := hide h; replace hr := hide hr; replace hb := hide hb
  go_enter Tryz.func160, Tryz.ntmps160
  go_wp2_with (go_at_call 180; (with_reducible refine h.out.mono ?_); rintro e w' ⟨rfl, rfl⟩)
  go_ret
  exact ⟨rfl, rfl⟩
end Go.Proofs.YtjkpelbhhapebaaGreatDoor
