/-
  A nil world, walked. Conditions: names of ordinary sizes.
-/
import Derived.Test.YtmlnieblgkhjnaaNew
namespace Go.Proofs.Ytmlnieblgkhjnaa
open Go.RowKit Go.Maps
theorem nil_write (s : ByteArray) (A : Option Addr) (m cap : Nat) (w : World) (h1 : 1 ≤ s.size) (h2 : s.size ≤ 32) (hm : m ≤ 1048576) : Calls Try.prog 11 #[.pointer none, .string s, .int .i64 0, .slice A m cap] w fun e w' => e = .returned (.int .i64 8) ∧ w = w' := by
  have hname := hide (name_ok s w h1 h2)
  have d1 : decide ((1048576 : Int) < m) = false := by simp; omega
  go_enter Try.func11, Try.ntmps11
  go_wp2_with (go_at_call 22; (with_reducible refine hname.out.mono ?_); rintro e w1 ⟨rfl, rfl⟩)
  go_ret
  exact ⟨rfl, rfl⟩
theorem nil_read (s : ByteArray) (w : World) (h1 : 1 ≤ s.size) (h2 : s.size ≤ 32) : Calls Try.prog 12 #[.pointer none, .string s, .int .i64 0, .int .i64 1] w fun e w' => e = .returned (.tuple #[.slice none 0 0, .int .i64 8]) ∧ w = w' := by
  have hname := hide (name_ok s w h1 h2)
  go_enter Try.func12, Try.ntmps12
  go_wp2_with (go_at_call 22; (with_reducible refine hname.out.mono ?_); rintro e w1 ⟨rfl, rfl⟩)
  go_ret2
  exact ⟨rfl, rfl⟩
theorem nil_size (s : ByteArray) (w : World) : Calls Try.prog 13 #[.pointer none, .string s] w fun e w' => e = .returned (.int .i64 (-1)) ∧ w = w' := by
  go_enter Try.func13, Try.ntmps13
  go_wp2_with fail
  go_ret
  exact ⟨rfl, rfl⟩
theorem nil_sync (w : World) : Calls Try.prog 14 #[.pointer none] w fun e w' => e = .returned (.int .i64 8) ∧ w = w' := by
  go_enter Try.func14, Try.ntmps14
  go_wp2_with fail
  go_ret
  exact ⟨rfl, rfl⟩
theorem nil_rename (s t : ByteArray) (w : World) (h1 : 1 ≤ s.size) (h2 : s.size ≤ 32) (h3 : 1 ≤ t.size) (h4 : t.size ≤ 32) : Calls Try.prog 16 #[.pointer none, .string s, .string t] w fun e w' => e = .returned (.int .i64 8) ∧ w = w' := by
  have hname := hide (name_ok s w h1 h2)
  have hname2 := hide (name_ok t w h3 h4)
  go_enter Try.func16, Try.ntmps16
  go_wp2_with (first
    | (go_at_call 22; (with_reducible refine hname.out.mono ?_); rintro e w1 ⟨rfl, rfl⟩)
    | (go_at_call 22; (with_reducible refine hname2.out.mono ?_); rintro e w1 ⟨rfl, rfl⟩))
  go_ret
  exact ⟨rfl, rfl⟩
theorem nil_remove (s : ByteArray) (w : World) (h1 : 1 ≤ s.size) (h2 : s.size ≤ 32) : Calls Try.prog 17 #[.pointer none, .string s] w fun e w' => e = .returned (.int .i64 8) ∧ w = w' := by
  have hname := hide (name_ok s w h1 h2)
  go_enter Try.func17, Try.ntmps17
  go_wp2_with (go_at_call 22; (with_reducible refine hname.out.mono ?_); rintro e w1 ⟨rfl, rfl⟩)
  go_ret
  exact ⟨rfl, rfl⟩
theorem nil_waits (w : World) : Calls Try.prog 18 #[.pointer none] w fun e w' => e = .returned (.int .i64 0) ∧ w = w' := by
  go_enter Try.func18, Try.ntmps18
  go_wp2_with fail
  go_ret
  exact ⟨rfl, rfl⟩
theorem nil_ops (w : World) : Calls Try.prog 20 #[.pointer none] w fun e w' => e = .returned (.int .i64 0) ∧ w = w' := by
  go_enter Try.func20, Try.ntmps20
  go_wp2_with fail
  go_ret
  exact ⟨rfl, rfl⟩
theorem nil_off (w : World) : Calls Try.prog 21 #[.pointer none] w fun e w' => e = .returned (.bool false) ∧ w = w' := by
  go_enter Try.func21, Try.ntmps21
  go_wp2_with fail
  go_ret
  exact ⟨rfl, rfl⟩
theorem nil_names (w : World) : Calls Try.prog 19 #[.pointer none] w fun e w' => ∃ A c, e = .returned (.slice A 0 c) ∧ w = w' := by
  go_enter Try.func19, Try.ntmps19
  go_wp2_with fail
  go_ret
  exact ⟨_, _, rfl, rfl⟩
end Go.Proofs.Ytmlnieblgkhjnaa
