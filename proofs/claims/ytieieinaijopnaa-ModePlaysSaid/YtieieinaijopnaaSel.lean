/-
  (*mode.Pages).Select of any bytes, at pages or at nil. Condition: pages in a block of their own.
-/
import Derived.Test.YtieieinaijopnaaSelF
import Derived.Test.YtieieinaijopnaaSelT
namespace Go.Proofs.Ytieieinaijopnaa
open Go.RowKit
set_option maxRecDepth 100000 in
set_option maxHeartbeats 1000000 in
theorem select_nil (c : C) (A : Option Addr) (len cap : Nat) (w : World) : Calls Try.prog 11 #[.pointer none, cv c, .slice A len cap] w fun e w' =>
    e = .returned (.tuple #[.bool false, .agg #[.int .u8 0, .int .u16 0, .int .u64 0, .bool false, .int .i64 0, .int .i64 0, .bool false, .bool false], .bool true]) ∧ Mod (fun _ => False) w w' := by
  obtain ⟨kind, long, lba, blocks, alloc, fua, prot, unmap, evpd, page, control, save, service, type, bytes⟩ := c
  go_enter Try.func11, Try.ntmps11
  go_wp2_with fail
  exact bodyPost_ret (v := .tuple #[.bool false, .agg #[.int .u8 0, .int .u16 0, .int .u64 0, .bool false, .int .i64 0, .int .i64 0, .bool false, .bool false], .bool true]) (by simp [results, Try.results11, go_sem]) rfl
    ⟨rfl, ((Mod.refl _ w).alloc _).alloc _⟩
set_option maxRecDepth 100000 in
set_option maxHeartbeats 1000000 in
theorem select_empty (p : Nat) (c : C) (A : Option Addr) (cap : Nat) (L : List Int) (n s : V) (w : World) (hpg : PG w p n s) (hL : L.length = 0) : Calls Try.prog 11 #[.pointer (some ⟨p, 0, none⟩), cv c, .slice A 0 cap] w (SelPost p L c.long c.save n s w) := by
  obtain ⟨kind, long, lba, blocks, alloc, fua, prot, unmap, evpd, page, control, save, service, type, bytes⟩ := c
  replace hpg := hide hpg; replace hL := hide hL
  go_enter Try.func11, Try.ntmps11
  go_wp2_with fail
  have mf := fun o1 o2 => ((Mod.refl (fun _ => False) w).alloc o1).alloc o2
  exact bodyPost_ret (v := .tuple #[.bool false, .agg #[.int .u8 0, .int .u16 0, .int .u64 0, .bool false, .int .i64 0, .int .i64 0, .bool false, .bool false], .bool true]) (by simp [results, Try.results11, go_sem]) rfl
    ⟨false, noSense, true, n, s, .inl ⟨hL.out, rfl, rfl, rfl, rfl, rfl⟩, rfl, hpg.out.mod (mf _ _) (by simp), (mf _ _).mono (by simp)⟩
theorem select_any (p : Nat) (c : C) (A : Option Addr) (len cap : Nat) (L : List Int) (n s : V) (w : World) (hpg : PG w p n s) (hlc : len ≤ cap) (hcm : cap ≤ maxLen) (hr : Rd w 1 (ic .u8) A len L) (hb : ∀ x ∈ L, 0 ≤ x ∧ x ≤ 255) :
    Calls Try.prog 11 #[.pointer (some ⟨p, 0, none⟩), cv c, .slice A len cap] w (SelPost p L c.long c.save n s w) := by
  rcases Nat.eq_zero_or_pos len with h0 | h0
  · subst h0
    exact select_empty p c A cap L n s w hpg hr.1
  · obtain ⟨ad, rfl, -⟩ := hr.2 0 h0
    cases hl : c.long
    · exact select_F p c ad len cap L n s w hpg hl h0 hlc hcm hr hb
    · exact select_T p c ad len cap L n s w hpg hl h0 hlc hcm hr hb
end Go.Proofs.Ytieieinaijopnaa
