/-
  palletref19.Hex, walked. Conditions: fewer than 2^46 bytes.
-/
import Derived.Test.YtipkdhcbajcamaaRUnhex
import Derived.WalkLawsBesides
namespace Go.Proofs.Ytipkdhcbajcamaa
open Go.RowKit
theorem dig_cut (i : Nat) (h : i < 16) : digS.extract i (i + 1) = strOf [gi hexC i] := by
  obtain rfl | rfl | rfl | rfl | rfl | rfl | rfl | rfl | rfl | rfl | rfl | rfl | rfl | rfl | rfl | rfl : i = 0 ∨ i = 1 ∨ i = 2 ∨ i = 3 ∨ i = 4 ∨ i = 5 ∨ i = 6 ∨ i = 7 ∨ i = 8 ∨ i = 9 ∨ i = 10 ∨ i = 11 ∨ i = 12 ∨ i = 13 ∨ i = 14 ∨ i = 15 := by omega
  all_goals decide +kernel
theorem dig_slice (a : Int) (h0 : 0 ≤ a) (h1 : a < 16) (w : World) : (Instr.slice 9 (.string digS) (some (.int .u8 a)) (some (.int .u8 (a + 1))) none).run Try.prog w = .ok (.string (strOf [gi hexC a.toNat])) w := by
  have hs : digS.size = 16 := rfl
  rw [run_slice_string (w := w) 9 digS .u8 .u8 a (a + 1) Try.underlying9 h0 (by omega) (by rw [hs]; omega)]
  have e : (a + 1).toNat = a.toNat + 1 := by omega
  rw [e, dig_cut _ (by omega)]
set_option maxHeartbeats 2000000 in
theorem rhex_any (A : Option Addr) (len cap : Nat) (l : List Int) (w : World) (hr : Rd w 1 (ic .u8) A len l) (hlen : len ≤ 70000000000000) (hby : Hid (∀ x ∈ l, 0 ≤ x ∧ x ≤ 255)) :
    Calls Try.prog 13 #[.slice A len cap] w fun e w' => e = .returned (.string (strOf (hexL l))) ∧ ∃ n, w' = w.drewN n := by
  have HL : Hid (l.length = len) := hr.1
  replace hr := hide hr
  go_enter Try.func13, Try.ntmps13
  go_wp2
  go_loopw [4, 5] (fun v i wr => ∃ (k : Nat), k ≤ len ∧ i = .int .i64 k ∧ v = .string (strOf (hexL (l.take k))) ∧ Hid (∃ n, wr = w.drewN n)) (fun _ i _ => len - (intOf i).toNat)
  case atStart => exact ⟨0, by omega, rfl, by rw [List.take_zero]; rfl, hide ⟨0, rfl⟩⟩
  case round =>
    obtain ⟨k, hk, rfl, rfl, hW⟩ := hrel
    by_cases hlt : k < len
    · obtain ⟨ad, hA, hck0⟩ := hr.out.int k hlt
      subst hA
      have hck : wr.cell? (ad.add k) = some (.int .u8 (gi l k)) := by
        obtain ⟨n, hn⟩ := hW.out
        rw [hn]
        exact hck0
      clear hck0
      obtain ⟨b1, b2⟩ := hby.out _ (gi_mem (i := k) (l := l) (by rw [HL.out]; exact hlt))
      have hsn := hexL_snoc l k (by rw [HL.out]; exact hlt)
      have hsz : (strOf (hexL (l.take k))).size = 2 + 2 * k := by rw [strOf_size, hexL_len, List.length_take, HL.out]; omega
      have hst : strOf (hexL (l.take (k + 1))) = strOf (hexL (l.take k)) ++ (strOf [gi hexC (gi l k / 16).toNat] ++ strOf [gi hexC (gi l k % 16).toNat]) := by
        rw [← hsn, show ∀ a b : Int, [a, b] = [a] ++ [b] from fun _ _ => rfl, strOf_append, strOf_append]
      generalize gi l k = x at *
      have i1 := dig_slice (x / 16) (by omega) (by omega)
      have i2 := dig_slice (x % 16) (by omega) (by omega)
      have z1 : (strOf [gi hexC (x / 16).toNat]).size = 1 := strOf_size _
      have z2 : (strOf [gi hexC (x % 16).toNat]).size = 1 := strOf_size _
      generalize strOf [gi hexC (x / 16).toNat] = s1 at *
      generalize strOf [gi hexC (x % 16).toNat] = s2 at *
      generalize strOf (hexL (l.take k)) = S at *
      unfold digS at i1 i2
      replace hsn := hide hsn
      replace hst := hide hst
      have nk : ((k : Int)).toNat = k := by omega
      go_wp2
      go_quiet (fail)
      go_wp2
      go_roundw
      case rel => exact ⟨k + 1, by omega, by go_num, by rw [hst.out], hide (by obtain ⟨n, hn⟩ := hW.out; exact ⟨_, by rw [hn, World.drewN_drewN]⟩)⟩
      case measure => simp [intOf]; omega
    · have hkl : k = len := by omega
      have hl2 : Hid (l.take k = l) := hide (List.take_of_length_le (by rw [HL.out]; omega))
      replace hkl := hide hkl
      go_wp2
      go_ret
      rw [hl2.out]
      exact ⟨rfl, hW.out⟩
end Go.Proofs.Ytipkdhcbajcamaa
