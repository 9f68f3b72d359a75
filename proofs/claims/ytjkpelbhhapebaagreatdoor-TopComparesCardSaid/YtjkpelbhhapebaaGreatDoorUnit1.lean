/-
  Small functions of the unit: check, Class, Alters, the atomic count, the parts' makers, walked. Conditions: as stated.
-/
import Derived.Test.YtjkpelbhhapebaaGreatDoorUState
import Derived.Laws.LoneSync
namespace Go.Proofs.YtjkpelbhhapebaaGreatDoor
open Go.RowKit
open W (Nxt)
set_option maxRecDepth 100000
set_option maxHeartbeats 1000000 in
theorem check_any (key code info : Int) (has : Bool) (w : World) : Calls Tryz.prog 19 #[.agg (seA key code info has)] w fun e w' => e = .returned (rsA 2 key code info has (.slice none 0 0)) ∧ Mod (fun _ => False) w w' := by
  go_enter Tryz.func19, Tryz.ntmps19
  go_wp2
  exact bodyPost_ret (v := rsA 2 key code info has (.slice none 0 0)) (by simp [results, Tryz.results19, go_sem]) rfl ⟨rfl, ((Mod.refl _ w).alloc _).alloc _⟩
def classOf : List (Int × Int) := [(1, 1), (7, 1), (5, 1), (8, 2), (12, 2), (14, 2), (4, 2), (11, 2), (2, 0), (16, 0)]
theorem class_any (k r : Int) (h : (k, r) ∈ classOf) (w : World) : Calls Tryz.prog 17 #[.int .u8 k] w fun e w' => e = .returned (.int .u8 r) ∧ w = w' := by
  simp only [classOf, List.mem_cons, Prod.mk.injEq, List.not_mem_nil, or_false] at h
  rcases h with ⟨rfl, rfl⟩ | ⟨rfl, rfl⟩ | ⟨rfl, rfl⟩ | ⟨rfl, rfl⟩ | ⟨rfl, rfl⟩ | ⟨rfl, rfl⟩ | ⟨rfl, rfl⟩ | ⟨rfl, rfl⟩ | ⟨rfl, rfl⟩ | ⟨rfl, rfl⟩
  all_goals
    go_enter Tryz.func17, Tryz.ntmps17
    go_wp2
    go_ret
    exact ⟨rfl, rfl⟩
def altersOf : List (Int × Bool) := [(8, true), (12, true), (14, true), (1, false), (2, false), (4, false), (5, false), (7, false), (11, false), (16, false)]
theorem alters_any (k : Int) (r : Bool) (h : (k, r) ∈ altersOf) (w : World) : Calls Tryz.prog 26 #[.int .u8 k] w fun e w' => e = .returned (.bool r) ∧ w = w' := by
  simp only [altersOf, List.mem_cons, Prod.mk.injEq, List.not_mem_nil, or_false] at h
  rcases h with ⟨rfl, rfl⟩ | ⟨rfl, rfl⟩ | ⟨rfl, rfl⟩ | ⟨rfl, rfl⟩ | ⟨rfl, rfl⟩ | ⟨rfl, rfl⟩ | ⟨rfl, rfl⟩ | ⟨rfl, rfl⟩ | ⟨rfl, rfl⟩ | ⟨rfl, rfl⟩
  all_goals
    go_enter Tryz.func26, Tryz.ntmps26
    go_wp2
    go_ret
    exact ⟨rfl, rfl⟩
theorem prnew_any (w : World) : Calls Tryz.prog 38 #[] w fun e w' => ∃ t, e = .returned (.pointer (some ⟨t, 0, none⟩)) ∧ TB w' t (.slice none 0 0) tb0 ∧ Mod (fun _ => False) w w' ∧ t = w.heap.size ∧ w'.heap.size = t + 1 := by
  go_enter Tryz.func38, Tryz.ntmps38
  go_wp2
  go_ret
  exact ⟨_, rfl, heap_alloc_new _ _, (Mod.refl _ w).alloc _, rfl, by simp⟩
theorem stopen_any (wb : Nat) (s : ByteArray) (cache : Bool) (w : World) (h1 : 1 ≤ s.size) (h2 : s.size ≤ 32) : Calls Tryz.prog 34 #[.pointer (some ⟨wb, 0, none⟩), .string s, .int .i64 32, .bool cache] w fun e w' => ∃ p, e = .returned (.tuple #[.pointer (some ⟨p, 0, none⟩), .int .i64 0]) ∧ ST w' p wb s cache ∧ Mod (fun _ => False) w w' ∧ p = w.heap.size ∧ w'.heap.size = p + 1 := by
  have d1 : decide ((s.size : Int) < 1) = false := by simp; omega
  have d2 : decide ((32 : Int) < s.size) = false := by simp; omega
  go_enter Tryz.func34, Tryz.ntmps34
  go_wp2
  go_ret2
  exact ⟨_, rfl, heap_alloc_new _ _, (Mod.refl _ w).alloc _, rfl, by simp⟩
theorem slopen_any (wb : Nat) (s : ByteArray) (w : World) (h1 : 1 ≤ s.size) (h2 : s.size ≤ 30) : Calls Tryz.prog 36 #[.pointer (some ⟨wb, 0, none⟩), .string s] w fun e w' => ∃ p, e = .returned (.tuple #[.pointer (some ⟨p, 0, none⟩), .int .i64 0]) ∧ SL w' p wb s false (-1) 0 ∧ Mod (fun _ => False) w w' ∧ p = w.heap.size ∧ w'.heap.size = p + 1 := by
  have d1 : decide ((s.size : Int) < 1) = false := by simp; omega
  have d2 : decide ((30 : Int) < s.size) = false := by simp; omega
  go_enter Tryz.func36, Tryz.ntmps36
  go_wp2
  go_ret2
  exact ⟨_, rfl, heap_alloc_new _ _, (Mod.refl _ w).alloc _, rfl, by simp⟩
/-- The count goes up. -/
theorem count_any (a : UA) (prot done mu n : Int) (w : World) (h : UB w a prot done mu n) : Calls Tryz.prog 20 #[.pointer (some ⟨a.u, 15, none⟩), .int .i64 1] w fun e w' => ∃ r m, e = .returned r ∧ UB w' a prot done mu m ∧ Mod (fun k => k = a.u) w w' ∧ w'.heap.size = w.heap.size := by
  have k15 : w.cell? ⟨a.u, 15, none⟩ = some (.int .i64 n) := h.at_ 15
  have f15 := h.fr 15
  have hadd := run_call_add (P := Tryz.prog) Tryz.func40 (by kernel_rfl) (by kernel_rfl) (by kernel_rfl) .i64 (by kernel_rfl) (y := 1) (s := IntKind.i64.wrap (n + 1)) k15 f15 (by simp [go_sem])
  have hE := hide (h.set 15 (.int .i64 (IntKind.i64.wrap (n + 1))) (d' := done) (m' := mu) (c' := IntKind.i64.wrap (n + 1)) rfl)
  have hM : Hid (Mod (fun k => k = a.u) w (w.setCell ⟨a.u, 15, none⟩ (.int .i64 (IntKind.i64.wrap (n + 1))))) := hide (mod_s (Mod.refl _ w))
  replace h := hide h
  generalize IntKind.i64.wrap (n + 1) = m at *
  go_enter Tryz.func20, Tryz.ntmps20
  go_wp2
  go_ret
  exact ⟨_, m, rfl, hE.out, hM.out, by simp [World.setCell]⟩
set_option maxHeartbeats 1000000 in
theorem text_any (s : ByteArray) (lo hi : Int) (w : World) (hs : s.size ≤ 100) (hall : ∀ (i : Nat) (h : i < s.size), 32 ≤ (s[i].toNat : Int) ∧ (s[i].toNat : Int) ≤ 126) (hlo : lo ≤ s.size) (hhi : (s.size : Int) ≤ hi) :
    Calls Tryz.prog 66 #[.string s, .int .i64 lo, .int .i64 hi] w fun e w' => e = .returned (.bool true) ∧ w = w' := by
  have dlo : decide (lo ≤ (s.size : Int)) = true := by simpa using hlo
  have dhi : decide ((s.size : Int) ≤ hi) = true := by simpa using hhi
  replace hall := hide hall
  go_enter Tryz.func66, Tryz.ntmps66
  go_wp2
  go_loop [7, 10] (fun _ v => ∃ k : Nat, k ≤ s.size ∧ v = .int .i64 k) (fun _ v => s.size - (intOf v).toNat)
  case atStart => exact ⟨0, by omega, rfl⟩
  case round =>
    obtain ⟨k, hk, rfl⟩ := hrel
    by_cases hlt : k < s.size
    · obtain ⟨b1, b2⟩ := hall.out k hlt
      have d1 : decide ((s[k].toNat : Int) < 32) = false := by simp; omega
      have d2 : decide (126 < (s[k].toNat : Int)) = false := by simp; omega
      go_wp2
      go_round
      case rel => exact ⟨k + 1, by omega, by go_num⟩
      case measure => simp [intOf]; omega
    · go_wp2
      go_ret
      exact ⟨rfl, rfl⟩
set_option maxHeartbeats 1000000 in
theorem form_any (prot : Int) (w : World) (hp : 0 ≤ prot ∧ prot ≤ 3) : Calls Tryz.prog 33 #[.agg #[.string uE, .string uE, .string uE, .string uS, .int .u8 prot]] w fun e w' => e = .returned (.bool true) ∧ Mod (fun _ => False) w w' := by
  have t1 := fun w => text_any uE 0 8 w (by decide) (fun i h => absurd h (by simp [uE, ByteArray.size])) (by decide) (by decide)
  have t2 := fun w => text_any uE 0 16 w (by decide) (fun i h => absurd h (by simp [uE, ByteArray.size])) (by decide) (by decide)
  have t3 := fun w => text_any uE 0 4 w (by decide) (fun i h => absurd h (by simp [uE, ByteArray.size])) (by decide) (by decide)
  have t4 := fun w => text_any uS 1 20 w (by decide) (fun i h => by
    have h0 : i = 0 := by simp [uS, ByteArray.size] at h; omega
    subst h0
    exact (by decide : (32 : Int) ≤ (((83 : UInt8).toNat : Nat) : Int) ∧ (((83 : UInt8).toNat : Nat) : Int) ≤ 126)) (by decide) (by decide)
  have d4 : decide (prot ≤ 3) = true := by simpa using hp.2
  have hm : Hid (Mod (fun _ => False) w (w.alloc (.cells #[.string uE, .string uE, .string uE, .string uS, .int .u8 prot] 69))) := hide ((Mod.refl _ w).alloc _)
  generalize uE = E at *
  generalize uS = Z at *
  replace t1 := hide t1; replace t2 := hide t2; replace t3 := hide t3; replace t4 := hide t4
  go_enter Tryz.func33, Tryz.ntmps33
  go_wp2_with (first
    | (go_at_call 66; (with_reducible refine (t1.out _).mono ?_); rintro e w' ⟨rfl, rfl⟩)
    | (go_at_call 66; (with_reducible refine (t2.out _).mono ?_); rintro e w' ⟨rfl, rfl⟩)
    | (go_at_call 66; (with_reducible refine (t3.out _).mono ?_); rintro e w' ⟨rfl, rfl⟩)
    | (go_at_call 66; (with_reducible refine (t4.out _).mono ?_); rintro e w' ⟨rfl, rfl⟩))
  go_ret
  exact ⟨rfl, hm.out⟩
end Go.Proofs.YtjkpelbhhapebaaGreatDoor
