/-
  The walks of pi.escapes and pi.Check of a block that is well. Conditions: as stated.
-/
import Derived.Test.YtjkpelbhhapebaaGreatDoorPi
namespace Go.Proofs.YtjkpelbhhapebaaGreatDoor
open Go.RowKit
set_option maxRecDepth 100000
def escB (kind a r : Int) : Bool := a == 65535 && (kind != 3 || r == 4294967295)
set_option maxHeartbeats 400000 in
theorem escapes_any (kind g a r : Int) (w : World) : Calls Tryz.prog 159 #[.int .u8 kind, .agg #[.int .u16 g, .int .u16 a, .int .u32 r]] w fun e w' => e = .returned (.bool (escB kind a r)) ∧ Mod (fun _ => False) w w' := by
  cases h1 : (a == 65535)
  · have d1 : (a != 65535) = true := by rw [bne, h1]; rfl
    have hr : escB kind a r = false := by rw [escB, h1]; rfl
    rw [hr]
    clear hr
    go_enter Tryz.func159, Tryz.ntmps159
    go_wp2
    go_ret
    exact ⟨rfl, (Mod.refl _ w).alloc _⟩
  · have d1 : (a != 65535) = false := by rw [bne, h1]; rfl
    cases h2 : (kind != 3)
    · have hr : escB kind a r = (r == 4294967295) := by rw [escB, h1, h2]; rfl
      rw [hr]
      clear hr
      go_enter Tryz.func159, Tryz.ntmps159
      go_wp2
      go_ret
      exact ⟨rfl, (Mod.refl _ w).alloc _⟩
    · have hr : escB kind a r = true := by rw [escB, h1, h2]; rfl
      rw [hr]
      clear hr
      go_enter Tryz.func159, Tryz.ntmps159
      go_wp2
      go_ret
      exact ⟨rfl, (Mod.refl _ w).alloc _⟩
/-- A block that is well, at its place. -/
def WellAt (kind lba : Int) (b : Bl) : Prop := kind = 0 ∨ escB kind b.a b.r = true ∨ b.g = c16 b.d ∧ (kind = 3 ∨ b.r = lba)
theorem ba_cells (w : World) (b : Bl) (hd : b.d.length = 16) : (w.alloc (.cells (ba b) 259)).cell? ⟨w.heap.size, 16, none⟩ = some (.int .u16 b.g) ∧ (w.alloc (.cells (ba b) 259)).cell? ⟨w.heap.size, 17, none⟩ = some (.int .u16 b.a) ∧
    (w.alloc (.cells (ba b) 259)).cell? ⟨w.heap.size, 18, none⟩ = some (.int .u32 b.r) ∧ Rd (w.alloc (.cells (ba b) 259)) 1 (ic .u8) (some ⟨w.heap.size, 0, none⟩) 16 b.d := by
  refine ⟨?_, ?_, ?_, ?_⟩
  · rw [World.cell?_alloc_new, ba, List.getElem?_toArray, encB, List.getElem?_append_right (by rw [dcs_len]; omega), dcs_len]; rfl
  · rw [World.cell?_alloc_new, ba, List.getElem?_toArray, encB, List.getElem?_append_right (by rw [dcs_len]; omega), dcs_len]; rfl
  · rw [World.cell?_alloc_new, ba, List.getElem?_toArray, encB, List.getElem?_append_right (by rw [dcs_len]; omega), dcs_len]; rfl
  · refine rd_ints hd fun i hi => ⟨_, rfl, ?_⟩
    have e : (⟨w.heap.size, 0, none⟩ : Addr).add i = ⟨w.heap.size, i, none⟩ := by simp [Addr.add]; rintro rfl; rfl
    rw [e, World.cell?_alloc_new, ba, List.getElem?_toArray, encB, List.getElem?_append_left (by rw [dcs_len]; exact hi), dcs_map hd, List.getElem?_map, List.getElem?_eq_getElem (by omega), gi_eq _ i (by omega)]
    rfl
set_option maxHeartbeats 1000000 in
theorem check_ok (kind prot lba : Int) (b : Bl) (w : World) (hk : 0 ≤ kind ∧ kind ≤ 3) (hp : 0 ≤ prot ∧ prot ≤ 4) (hlba : 0 ≤ lba ∧ lba ≤ 1000000) (hb : OkBl b) (hw : WellAt kind lba b) :
    Calls Tryz.prog 137 #[.int .u8 kind, .int .u8 prot, .int .u64 lba, .agg (ba b)] w fun e w' => e = .returned (.int .u16 0) ∧ Mod (fun _ => False) w w' := by
  obtain ⟨c16', c17, c18, hrd⟩ := ba_cells w b hb.1
  have m0 : Mod (fun _ => False) w (w.alloc (.cells (ba b) 259)) := (Mod.refl _ w).alloc _
  have d3 : decide (3 < kind) = false := by simp; omega
  have d4 : decide (4 < prot) = false := by simp; omega
  obtain ⟨l0, l1⟩ := hlba
  replace m0 := hide m0
  by_cases k0 : kind = 0
  · have e0 : (kind == 0) = true := by simpa using k0
    clear k0 hw hrd
    replace hb := hide hb
    go_enter Tryz.func137, Tryz.ntmps137
    go_wp2
    go_ret
    exact ⟨rfl, m0.out⟩
  · have e0 : (kind == 0) = false := by simpa using k0
    by_cases p3 : prot = 3
    · have e3 : (prot == 3) = true := by simpa using p3
      clear k0 p3 hw hrd
      replace hb := hide hb
      go_enter Tryz.func137, Tryz.ntmps137
      go_wp2
      go_ret
      exact ⟨rfl, m0.out⟩
    · have e3 : (prot == 3) = false := by simpa using p3
      have hesc := escapes_any kind b.g b.a b.r (w.alloc (.cells (ba b) 259))
      cases he : escB kind b.a b.r
      · rw [he] at hesc
        obtain ⟨hg, hr⟩ : b.g = c16 b.d ∧ (kind = 3 ∨ b.r = lba) := by
          rcases hw with h | h | h
          · exact absurd h k0
          · rw [he] at h; cases h
          · exact h
        have hsum : ∀ W, Rd W 1 (ic .u8) (some ⟨w.heap.size, 0, none⟩) 16 b.d → _ := fun W h => c16_any (some ⟨w.heap.size, 0, none⟩) 16 16 b.d W h hb.2.1 (by decide)
        rw [← hg] at hsum
        clear hg he k0 p3 hw
        replace hesc := hide hesc; replace hsum := hide hsum; replace hrd := hide hrd; replace hb := hide hb
        have e4c : (prot != 4) = false ∨ (prot != 4) = true ∧ (kind != 3) = false ∨ (prot != 4) = true ∧ (kind != 3) = true ∧ (b.r != lba) = false := by
          by_cases p4 : prot = 4
          · exact .inl (by simpa using p4)
          · by_cases k3 : kind = 3
            · exact .inr (.inl ⟨by simpa using p4, by simpa using k3⟩)
            · exact .inr (.inr ⟨by simpa using p4, by simpa using k3, by simpa using hr.resolve_left k3⟩)
        clear hr
        by_cases p2 : prot = 2
        · have e2 : (prot != 2) = false := by simpa using p2
          clear p2
          rcases e4c with e4 | ⟨e4, e5⟩ | ⟨e4, e5, e6⟩
          all_goals
            go_enter Tryz.func137, Tryz.ntmps137
            go_wp2_with (go_at_call 159; (with_reducible refine hesc.out.mono ?_); rintro e w1 ⟨rfl, m1⟩
                         have q16 := m1.cell c16' (by simp)
                         have q18 := m1.cell c18 (by simp)
                         have hr1 := hrd.out.mod m1 (by simp)
                         replace m1 := hide m1; replace hr1 := hide hr1)
            go_quiet (fail)
            go_wp2_with fail
            go_ret
            exact ⟨rfl, (m0.out.trans m1.out (by simp)).drewN _⟩
        · have e2 : (prot != 2) = true := by simpa using p2
          clear p2
          rcases e4c with e4 | ⟨e4, e5⟩ | ⟨e4, e5, e6⟩
          all_goals
            go_enter Tryz.func137, Tryz.ntmps137
            go_wp2_with (go_at_call 159; (with_reducible refine hesc.out.mono ?_); rintro e w1 ⟨rfl, m1⟩
                         have q16 := m1.cell c16' (by simp)
                         have q18 := m1.cell c18 (by simp)
                         have hr1 := hrd.out.mod m1 (by simp)
                         replace m1 := hide m1; replace hr1 := hide hr1)
            go_quiet ((go_at_call 160; exact (hsum.out _ (hr1.out.drewN _)).mono fun e w' h => ⟨h.1, _, h.2.symm⟩))
            go_wp2_with fail
            go_ret
            exact ⟨rfl, (m0.out.trans m1.out (by simp)).drewN _⟩
      · rw [he] at hesc
        clear he k0 p3 hw hrd
        replace hb := hide hb; replace hesc := hide hesc
        go_enter Tryz.func137, Tryz.ntmps137
        go_wp2_with (go_at_call 159; (with_reducible refine hesc.out.mono ?_); rintro e w1 ⟨rfl, m1⟩)
        go_ret
        exact ⟨rfl, m0.out.trans m1 (by simp)⟩
end Go.Proofs.YtjkpelbhhapebaaGreatDoor
