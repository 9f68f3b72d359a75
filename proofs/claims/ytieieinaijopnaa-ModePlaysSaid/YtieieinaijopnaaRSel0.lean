/-
  The reference's Select: what it answers, in the program's words; of no bytes. Condition: the reference's pages in a block of their own.
-/
import Derived.Test.YtieieinaijopnaaRWord
import Derived.Test.YtieieinaijopnaaUniq
namespace Go.Proofs.Ytieieinaijopnaa
open Go.RowKit
def RSelPost (p : Nat) (L : List Int) (long save : Bool) (n s : V) (w : World) (e : Ending) (w' : World) : Prop := ∃ ch sn ok n' s', SelR L long save n s ch sn ok n' s' ∧
  e = .returned (.tuple #[.bool ch, .agg #[.int .u8 sn.key, .int .u16 sn.code, .int .u64 0, .bool false, .int .i64 sn.field, .int .i64 sn.bit, .bool sn.has, .bool sn.cmd], .bool ok]) ∧ RG w' p (bitsV n') (bitsV s') ∧ Mod (fun k => k = p) w w'
set_option maxRecDepth 100000 in
set_option maxHeartbeats 1000000 in
theorem rselect_empty (p : Nat) (c : C) (A : Option Addr) (cap : Nat) (L : List Int) (n s : V) (w : World) (hpg : RG w p (bitsV n) (bitsV s)) (hL : L.length = 0) : Calls Try.prog 16 #[.pointer (some ⟨p, 0, none⟩), cv c, .slice A 0 cap] w (RSelPost p L c.long c.save n s w) := by
  obtain ⟨kind, long, lba, blocks, alloc, fua, prot, unmap, evpd, page, control, save, service, type, bytes⟩ := c
  replace hpg := hide hpg; replace hL := hide hL
  go_enter Try.func16, Try.ntmps16
  go_wp2_with fail
  have mf := fun o1 o2 => ((Mod.refl (fun _ => False) w).alloc o1).alloc o2
  exact bodyPost_ret (v := .tuple #[.bool false, .agg #[.int .u8 0, .int .u16 0, .int .u64 0, .bool false, .int .i64 0, .int .i64 0, .bool false, .bool false], .bool true]) (by simp [results, Try.results16, go_sem]) rfl
    ⟨false, noSense, true, n, s, .inl ⟨hL.out, rfl, rfl, rfl, rfl, rfl⟩, rfl, hpg.out.mod (mf _ _) (by simp), (mf _ _).mono (by simp)⟩
end Go.Proofs.Ytieieinaijopnaa
