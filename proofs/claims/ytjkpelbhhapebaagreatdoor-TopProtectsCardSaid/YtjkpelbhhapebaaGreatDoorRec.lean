/-
  The walks of store.record, block and empty: a block as bytes, and back. Conditions: as stated.
-/
import Derived.Test.YtjkpelbhhapebaaGreatDoorChk
namespace Go.Proofs.YtjkpelbhhapebaaGreatDoor
open Go.RowKit
set_option maxRecDepth 100000
theorem elemU8 : Elem Tryz.prog 5 (.int .u8 0) 1 1 := ⟨by kernel_rfl, rfl, by decide⟩
theorem row_lit {w : World} {g : Nat} {e : TypeId} {k : IntKind} {l : List Int} (h : w.heap[g]? = some (.cells (l.map (Value.int k)).toArray e (0, 0))) (hl : l.length ≤ 1000) : Row w e 1 (ic k) (.slice (some ⟨g, 0, none⟩) l.length l.length) l := by
  refine ⟨by rw [flat_ic]; simp, .inr ⟨g, l.length, _, rfl, Nat.zero_le _, h, Nat.le_refl _, by simp [maxLen]; omega, by simp, ?_⟩⟩
  rw [flat_ic]
  exact List.take_of_length_le (by simp)
/-- A block as the file has it. -/
def rec (b : Bl) : List Int := 1 :: (b.d ++ [b.g / 256, b.g % 256, b.a / 256, b.a % 256] ++ [b.r / 16777216, b.r / 65536 % 256, b.r / 256 % 256, b.r % 256])
theorem u8wrap (x : Int) : IntKind.u8.wrap x = x % 256 := by
  have h : IntKind.u8.wrap x = x % 256 := by unfold IntKind.wrap; simp [IntKind.bits, IntKind.signed]
  exact h
set_option maxHeartbeats 1000000 in
theorem record_any (b : Bl) (w : World) (hb : OkBl b) :
    Calls Tryz.prog 163 #[.agg (ba b)] w fun e w' => ∃ v, e = .returned v ∧ Row w' 5 1 (ic .u8) v (rec b) ∧ Mod (fun _ => False) w w' ∧ ∀ k, v.ownBlock = some k → w.heap.size ≤ k := by
  obtain ⟨c16', c17, c18, hrd⟩ := ba_cells w b hb.1
  obtain ⟨-, -, ⟨g0, g1⟩, ⟨a0, a1⟩, ⟨r0, r1⟩⟩ := id hb
  have m0 : Mod (fun _ => False) w (w.alloc (.cells (ba b) 259)) := (Mod.refl _ w).alloc _
  replace hb := hide hb; replace hrd := hide hrd; replace m0 := hide m0
  have eg := u8wrap b.g
  have ea := u8wrap b.a
  have er := u8wrap b.r
  have er1 := u8wrap (b.r / 256)
  have er2 := u8wrap (b.r / 65536)
  go_enter Tryz.func163, Tryz.ntmps163
  go_wp2_with (first
    | (at_builtin; refine list_app (.tmp 4) (.tmp 6) 22 5 _ 1 1 (ic .u8) rfl rfl (ic_len _) (ic_one _) Tryz.underlying22 elemU8 (.slice (some ⟨w.heap.size + 1, 0, none⟩) 1 1) [1] (some ⟨w.heap.size, 0, none⟩) 16 16 b.d rfl rfl (row_lit (l := [1]) (heap_alloc2_new _ _ _) (by decide)) (hrd.out.alloc _) (by simp [maxLen]) (by simp) ?_; intro v2 w2 h2 g2 a2; obtain ⟨A2, n2, cap2, rfl⟩ := h2.form
       have m2 : Mod (fun k => w.heap.size < k) (w.alloc (.cells (ba b) 259)) w2 := ((Mod.refl _ _).alloc _).grown g2 fun k hk => by
         simp [Value.ownBlock] at hk; left; omega
       have q16 := m2.cell c16' (by simp)
       have q17 := m2.cell c17 (by simp)
       have q18 := m2.cell c18 (by simp)
       have o2 : ∀ k, (Value.slice A2 n2 cap2).ownBlock = some k → w.heap.size < k := fun k hk => by
         rcases a2 with e | e <;> rw [e] at hk <;> simp [Value.ownBlock] at hk <;> omega
       have z2 := m2.size
       simp only [World.size_alloc] at z2
       replace m2 := hide m2; replace h2 := hide h2; replace o2 := hide o2)
    | (at_builtin; refine list_app (.tmp 8) (.tmp 27) 22 5 _ 1 1 (ic .u8) rfl rfl (ic_len _) (ic_one _) Tryz.underlying22 elemU8 (.slice A2 n2 cap2) ([1] ++ b.d) (some ⟨w2.heap.size, 0, none⟩) 4 4 [b.g / 256, b.g % 256, b.a / 256, b.a % 256] rfl rfl (h2.out.alloc _) (rd_block (l := [b.g / 256, b.g % 256, b.a / 256, b.a % 256]) (heap_alloc_new _ _) rfl) (by simp [maxLen, hb.out.1]) (by simp [hb.out.1]) ?_; intro v3 w3 h3 g3 a3; obtain ⟨A3, n3, cap3, rfl⟩ := h3.form
       have m3 : Mod (fun k => w.heap.size < k) (w.alloc (.cells (ba b) 259)) w3 := (m2.out.alloc _).grown g3 fun k hk => .inl (o2.out k hk)
       have q16 := m3.cell c16' (by simp)
       have q17 := m3.cell c17 (by simp)
       have q18 := m3.cell c18 (by simp)
       have o3 : ∀ k, (Value.slice A3 n3 cap3).ownBlock = some k → w.heap.size < k := fun k hk => by
         rcases a3 with e | e <;> rw [e] at hk
         · exact o2.out k hk
         · simp at hk; omega
       have z3 := m3.size
       simp only [World.size_alloc] at z3
       replace m3 := hide m3; replace h3 := hide h3; replace o3 := hide o3)
    | (at_builtin; refine list_app (.tmp 29) (.tmp 49) 22 5 _ 1 1 (ic .u8) rfl rfl (ic_len _) (ic_one _) Tryz.underlying22 elemU8 (.slice A3 n3 cap3) ([1] ++ b.d ++ [b.g / 256, b.g % 256, b.a / 256, b.a % 256]) (some ⟨w3.heap.size, 0, none⟩) 4 4 [b.r / 16777216, b.r / 65536 % 256, b.r / 256 % 256, b.r % 256] rfl rfl (h3.out.alloc _) (rd_block (l := [b.r / 16777216, b.r / 65536 % 256, b.r / 256 % 256, b.r % 256]) (heap_alloc_new _ _) rfl) (by simp [maxLen, hb.out.1]) (by simp [hb.out.1]) ?_; intro v4 w4 h4 g4 a4; obtain ⟨A4, n4, cap4, rfl⟩ := h4.form
       have m4 : Mod (fun k => w.heap.size < k) (w.alloc (.cells (ba b) 259)) w4 := (m3.out.alloc _).grown g4 fun k hk => .inl (o3.out k hk)
       have q16 := m4.cell c16' (by simp)
       have q17 := m4.cell c17 (by simp)
       have q18 := m4.cell c18 (by simp)
       have o4 : ∀ k, (Value.slice A4 n4 cap4).ownBlock = some k → w.heap.size < k := fun k hk => by
         rcases a4 with e | e <;> rw [e] at hk
         · exact o3.out k hk
         · simp at hk; omega
       have z4 := m4.size
       simp only [World.size_alloc] at z4
       replace m4 := hide m4; replace h4 := hide h4; replace o4 := hide o4))
  go_ret
  exact ⟨_, rfl, h4.out, ((m0.out.mono (G := fun _ => False) (by simp)).trans (m4.out.mono (G := fun k => w.heap.size < k) (fun _ _ h => h)) (fun i hi h => by omega)), fun k hk => by have := o4.out k hk; omega⟩
end Go.Proofs.YtjkpelbhhapebaaGreatDoor
