/-
  The walks of package be (field, Get, Within, Odd): numbers out of bytes. Condition: a slice that reads as bytes.
-/
import Derived.Test.YtjkpelbhhapebaaGreatDoorMem
import Derived.Laws.Closers25b
import Derived.Laws.Bits64b
namespace Go.Proofs.YtjkpelbhhapebaaGreatDoor
open Go.RowKit
set_option maxRecDepth 100000
/-- The number that bytes are. -/
def val (l : List Int) : Int := l.foldl (fun v b => v * 256 + b) 0
def Bytes (l : List Int) : Prop := ∀ x ∈ l, 0 ≤ x ∧ x ≤ 255
theorem val_snoc (l : List Int) (b : Int) : val (l ++ [b]) = val l * 256 + b := by
  unfold val
  rw [List.foldl_append]
  rfl
theorem Bytes.take {l : List Int} (h : Bytes l) (k : Nat) : Bytes (l.take k) := fun x hx => h x (List.mem_of_mem_take hx)
theorem Bytes.drop {l : List Int} (h : Bytes l) (k : Nat) : Bytes (l.drop k) := fun x hx => h x (List.mem_of_mem_drop hx)
theorem Bytes.gi {l : List Int} (h : Bytes l) (k : Nat) (hk : k < l.length) : 0 ≤ gi l k ∧ gi l k ≤ 255 := by
  rw [gi_eq l k hk]
  exact h _ (List.getElem_mem _)
theorem Bytes.append {l m : List Int} (h : Bytes l) (k : Bytes m) : Bytes (l ++ m) := fun x hx => by
  rcases List.mem_append.1 hx with hx | hx
  · exact h x hx
  · exact k x hx
theorem val_take (l : List Int) (k : Nat) (h : k < l.length) : val (l.take (k + 1)) = val (l.take k) * 256 + gi l k := by
  rw [List.take_succ_eq_append_getElem h, gi_eq l k h, val_snoc]
theorem val_bound (l : List Int) (h : Bytes l) : ∀ k, k ≤ l.length → 0 ≤ val (l.take k) ∧ val (l.take k) < 256 ^ k
  | 0, _ => by simp [val]
  | k + 1, hk => by
    have ih := val_bound l h k (by omega)
    have hb := h.gi k (by omega)
    rw [val_take l k (by omega), Int.pow_succ]
    omega
theorem or_byte (v b : Int) (h0 : 0 ≤ v) (h1 : v * 256 < 18446744073709551616) (hb : 0 ≤ b ∧ b ≤ 255) : bits BinOp.or IntKind.u64 (v * 256) b = v * 256 + b := by
  obtain ⟨n, rfl⟩ := Int.eq_ofNat_of_zero_le h0
  obtain ⟨m, rfl⟩ := Int.eq_ofNat_of_zero_le hb.1
  have h2 := bits_or_u64_nat (n * 256) m (by omega) (by omega)
  have e : ((n : Int) * 256) = ((n * 256 : Nat) : Int) := by omega
  rw [e, h2]
  have h3 := Nat.shiftLeft_add_eq_or_of_lt (show m < 2 ^ 8 by omega) n
  rw [Nat.shiftLeft_eq] at h3
  rw [show n * 256 = n * 2 ^ 8 from rfl, ← h3]
  omega
set_option maxHeartbeats 400000 in
theorem field_ok (A : Option Addr) (len cap : Nat) (at_ n : Int) (w : World) (h1 : 1 ≤ n) (h8 : n ≤ 8) (ha : 0 ≤ at_) (hl : at_ + n ≤ len) (hc : len ≤ 1000000000) :
    Calls Tryz.prog 120 #[.slice A len cap, .int .i64 at_, .int .i64 n] w fun e w' => e = .returned (.int .i64 0) ∧ w = w' := by
  have d1 : decide (n < 1) = false := by simp; omega
  have d2 : decide (8 < n) = false := by simp; omega
  have d3 : decide (at_ < 0) = false := by simp; omega
  have d4 : decide ((len : Int) - n < at_) = false := by simp; omega
  go_enter Tryz.func120, Tryz.ntmps120
  go_wp2
  go_ret
  exact ⟨rfl, rfl⟩
set_option maxHeartbeats 1000000 in
theorem get_any (A : Addr) (len cap at_ n : Nat) (L : List Int) (w : World) (hr : Rd w 1 (ic .u8) (some A) len L) (hb : Bytes L) (h1 : 1 ≤ n) (h8 : n ≤ 8) (hl : at_ + n ≤ len) (hlc : len ≤ cap) (hc : len ≤ 1000000000) :
    Calls Tryz.prog 90 #[.slice (some A) len cap, .int .i64 at_, .int .i64 n] w fun e w' => e = .returned (.tuple #[.int .u64 (val ((L.drop at_).take n)), .int .i64 0]) ∧ w = w' := by
  have hf := field_ok (some A) len cap at_ n w (by omega) (by omega) (by omega) (by omega) (by omega)
  have hL := hr.1
  have hcs : ∀ i, i < n → w.cell? ((A.add at_).add i) = some (.int .u8 (gi (L.drop at_) i)) := fun i hi => by
    obtain ⟨ad, e, hc⟩ := hr.int (at_ + i) (by omega)
    obtain rfl := Option.some.inj e
    rw [addr_add, hc]
    simp [gi, List.getD_eq_getElem?_getD]
  have hR := hb.drop at_
  have hRl : n ≤ (L.drop at_).length := by simp [hL]; omega
  generalize L.drop at_ = R at *
  have hcap : ¬ cap = at_ := by omega
  have hk1 : at_ ≤ cap := by omega
  have hk2 : at_ + n ≤ cap := by omega
  have hk3 : (at_ : Int) + n ≤ cap := by omega
  have hk4 : (at_ : Int) ≤ (at_ : Int) + n := by omega
  have hv := fun k => val_bound R hR k
  replace hf := hide hf; replace hcs := hide hcs; replace hR := hide hR; replace hRl := hide hRl; replace hv := hide hv
  clear hr hb hL
  go_enter Tryz.func90, Tryz.ntmps90
  go_wp2_with (go_at_call 120; (with_reducible refine hf.out.mono ?_); rintro e w' ⟨rfl, rfl⟩)
  go_loop [9, 26] (fun u v => ∃ k : Nat, k ≤ n ∧ v = .int .i64 k ∧ u = .int .u64 (val (R.take k))) (fun _ v => n - (intOf v).toNat)
  case atStart => exact ⟨0, by omega, rfl, rfl⟩
  case round =>
    obtain ⟨k, hk, rfl, rfl⟩ := hrel
    by_cases hlt : k < n
    · have hck := hcs.out k hlt
      obtain ⟨b0, b1⟩ := hR.out.gi k (by have := hRl.out; omega)
      obtain ⟨v0, v1⟩ := hv.out k (by have := hRl.out; omega)
      have hst := val_take R k (by have := hRl.out; omega)
      have hv2 : val (R.take k) * 256 < 18446744073709551616 := by
        have h7 : (256 : Int) ^ k ≤ 256 ^ 7 := by
          have : k ≤ 7 := by omega
          match k, this with
          | 0, _ | 1, _ | 2, _ | 3, _ | 4, _ | 5, _ | 6, _ | 7, _ => decide
        have h9 : (256 : Int) ^ 7 = 72057594037927936 := by decide
        omega
      have hor := or_byte (val (R.take k)) (gi R k) v0 hv2 ⟨b0, b1⟩
      have hv3 : val (R.take k) ≤ 72057594037927935 := by omega
      generalize gi R k = b at *
      generalize val (R.take k) = v at *
      have hfin : bits BinOp.or IntKind.u64 (v * 256) b = val (R.take (k + 1)) := by rw [hor, hst]
      have hw : IntKind.u64.wrap (v * 256) = v * 256 := IntWalk.u64_in _ (by omega)
      replace hfin := hide hfin
      clear hst hor v1 hv2
      go_wp2_with fail
      go_round
      case rel => exact ⟨k + 1, by omega, by go_num, int_eq hfin.out⟩
      case measure => simp [intOf]; omega
    · obtain rfl : k = n := by omega
      go_wp2_with fail
      go_ret2
      exact ⟨rfl, rfl⟩
end Go.Proofs.YtjkpelbhhapebaaGreatDoor
