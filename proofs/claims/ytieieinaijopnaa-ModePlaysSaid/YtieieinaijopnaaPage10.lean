/-
  The walk of mode.page, the page 10. Condition: a slice of bytes and a place within it.
-/
import Derived.Test.YtieieinaijopnaaPagew
namespace Go.Proofs.Ytieieinaijopnaa
open Go.RowKit
set_option maxRecDepth 100000 in
set_option maxHeartbeats 4000000 in
theorem page_10 (A : Addr) (m c at_ : Nat) (L : List Int) (v : V) (w : World) (hp : Pre A at_ m c L w) (e0 : gi (L.drop at_) 0 = 10) :
    Calls Try.prog 21 #[.slice (some A) (at_ + m) (at_ + c), .int .i64 at_, vv v] w (PagePost (L.drop at_) at_ v w) := by
  obtain ⟨hm1, hmc, hcm, hr, hb⟩ := hp
  replace hcm : at_ + c ≤ 9223372036854775807 := hcm
  have hL : L.length = at_ + m := hr.1
  have hRl : (L.drop at_).length = m := by simp [hL]
  have hgi : ∀ i, gi (L.drop at_) i = gi L (at_ + i) := fun i => by simp [gi, List.getD_eq_getElem?_getD]
  have hcs : ∀ i, i < m → w.cell? ((A.add at_).add i) = some (.int .u8 (gi (L.drop at_) i)) := fun i hi => by
    obtain ⟨ad, e, hc⟩ := hr.int (at_ + i) (by omega)
    obtain rfl := Option.some.inj e
    rw [addr_add, hc, hgi]
  have hbs : ∀ i, i < m → 0 ≤ gi (L.drop at_) i ∧ gi (L.drop at_) i ≤ 255 := fun i hi => by
    rw [hgi, gi_eq L _ (by omega)]
    exact hb _ (List.getElem_mem _)
  clear hr hb hgi hL
  generalize L.drop at_ = R at *
  have hc0 : w.cell? (A.add at_) = some (.int .u8 (gi R 0)) := by have := hcs 0 (by omega); rwa [show (A.add at_).add 0 = A.add at_ from by simp [Addr.add]] at this
  have hk0 : (A.add at_).block < w.heap.size := World.block_lt_of_cell? w _ hc0
  have hk1 : (A.add at_).block < w.heap.size + 1 := by omega
  have hk2 : (A.add at_).block < w.heap.size + 1 + 1 := by omega
  have hcap1 : ¬ at_ + c = at_ := by omega
  have hcap2 : at_ ≤ at_ + c := by omega
  have hcap3 : (at_ : Int) ≤ (at_ : Int) + m := by omega
  have hcap4 : (at_ : Int) ≤ (at_ : Int) + c := by omega
  obtain ⟨b, hbw⟩ : ∃ b, b = w.heap.size := ⟨_, rfl⟩
  obtain ⟨va, vb, vc⟩ := v
  have m0 : Mod (fun _ => False) w (((w.alloc (.cells #[.bool va, .bool vb, .bool vc] 23)).alloc (.cells #[.bool false, .bool false, .bool false] 23)).alloc (.cells #[.int .u8 0, .int .u16 0, .int .u64 0, .bool false, .int .i64 0, .int .i64 0, .bool false, .bool false] 31)) := (((Mod.refl _ w).alloc _).alloc _).alloc _
  have E0 : PEnv (((w.alloc (.cells #[.bool va, .bool vb, .bool vc] 23)).alloc (.cells #[.bool false, .bool false, .bool false] 23)).alloc (.cells #[.int .u8 0, .int .u16 0, .int .u64 0, .bool false, .int .i64 0, .int .i64 0, .bool false, .bool false] 31)) w.heap.size ⟨va, vb, vc⟩ :=
    ⟨(((Mod.refl (fun _ => False) _).alloc _).alloc _).heap (heap_alloc_new w _) (by simp), ((Mod.refl (fun _ => False) _).alloc _).heap (heap_alloc2_new w _ _) (by simp), by have := heap_alloc_new ((w.alloc (.cells #[.bool va, .bool vb, .bool vc] 23)).alloc (.cells #[.bool false, .bool false, .bool false] 23)) (.cells #[.int .u8 0, .int .u16 0, .int .u64 0, .bool false, .int .i64 0, .int .i64 0, .bool false, .bool false] 31); simpa using this⟩
  replace hbw := hide hbw; replace m0 := hide m0; replace E0 := hide E0; replace hcs := hide hcs; replace hbs := hide hbs; replace hRl := hide hRl
  rw [e0] at hc0
  have hwn : wn (gi R 0) = 12 := by rw [e0]; rfl
  have hw1 : w1b (gi R 0) = 10 := by rw [e0]; rfl
  have hmR : (m : Int) = m := rfl
  have hsplit : ((m : Int) < 2 ∧ m < 2) ∨ (2 ≤ m ∧ m < 12 ∧ gi R 1 = 10) ∨ (2 ≤ m ∧ m < 12 ∧ ¬ gi R 1 = 10) ∨ (12 ≤ m ∧ ¬ gi R 1 = 10) ∨ (12 ≤ m ∧ gi R 1 = 10) := by omega
  clear hmR
  replace e0 := hide e0; replace hwn := hide hwn; replace hw1 := hide hw1; replace hsplit := hide hsplit
  go_enter Try.func21, Try.ntmps21
  go_wp2_with (first
    | (go_at_call 19; (with_reducible refine (control_any v0 _).mono ?_); rintro e w4 ⟨g4, rfl, r4, m4, -⟩
       have E4 := E0.out.q m4
       have M4 := m0.out.trans m4 (by simp)
       obtain ⟨⟨p40, p41, p42⟩, ⟨s40, s41, s42⟩, t40, t41, t42, t43, t44, t45, t46, t47⟩ := E4.cells
       obtain ⟨F4, G4, H4⟩ := E4.frozen
       have u40 := F4 0; have u41 := F4 1; have u42 := F4 2; have g40 := G4 0; have g41 := G4 1; have g42 := G4 2
       have h40 := H4 0; have h41 := H4 1; have h42 := H4 2; have h43 := H4 3; have h44 := H4 4; have h45 := H4 5; have h46 := H4 6; have h47 := H4 7
       clear F4 G4 H4
       have z4 : w.heap.size + 1 + 1 < w4.heap.size := E4.size
       have y4 : w.heap.size + 1 < w4.heap.size := by omega
       have x4 : w.heap.size < w4.heap.size := by omega
       replace E4 := hide E4; replace M4 := hide M4; replace m4 := hide m4; replace r4 := hide r4))
  have d0 := M4.out.cell hc0 (by simp)
  have o1 : w4.cell? ⟨g4, 1, none⟩ = some (.int .u8 10) := (r4.out.num 1 (by decide)).1
  have hcs4 : ∀ i, i < m → w4.cell? ((A.add at_).add i) = some (.int .u8 (gi R i)) := fun i hi => M4.out.cell (hcs.out i hi) (by simp)
  have hcf4 : ∀ i, i < m → i ≠ 0 → w4.cell? ⟨(A.add at_).block, (A.add at_).off + i, none⟩ = some (.int .u8 (gi R i)) := fun i hi h0 => by rw [← hcs4 i hi]; simp [Addr.add, h0]
  clear hc0 hk0 hk1 hk2
  replace hcs4 := hide hcs4; replace hcf4 := hide hcf4
  rcases hsplit.out with ⟨k1, k2⟩ | ⟨k1, k2, k3⟩ | ⟨k1, k2, k3⟩ | ⟨k1, k3⟩ | ⟨k1, k3⟩
  · have j1 : decide ((m : Int) < 2) = true := by simpa using k1
    go_quiet (fail)
    go_wp2_with fail
    obtain ⟨f1, f2, f3⟩ := set11 (E4.out.drew nq) (.bool va) (.bool vb) (.bool vc) (.int .u8 5) (.int .u16 6656) (.int .u64 0) (.bool false) (.int .i64 0) (.int .i64 0) (.bool false) (.bool false)
    generalize ((((((((((((w4.drewN nq).setCell ⟨w.heap.size + 1, 0, none⟩ (.bool va)).setCell ⟨w.heap.size + 1, 1, none⟩ (.bool vb)).setCell ⟨w.heap.size + 1, 2, none⟩ (.bool vc)).setCell ⟨w.heap.size + 1 + 1, 0, none⟩ (.int .u8 5)).setCell ⟨w.heap.size + 1 + 1, 1, none⟩ (.int .u16 6656)).setCell ⟨w.heap.size + 1 + 1, 2, none⟩ (.int .u64 0)).setCell ⟨w.heap.size + 1 + 1, 3, none⟩ (.bool false)).setCell ⟨w.heap.size + 1 + 1, 4, none⟩ (.int .i64 0)).setCell ⟨w.heap.size + 1 + 1, 5, none⟩ (.int .i64 0)).setCell ⟨w.heap.size + 1 + 1, 6, none⟩ (.bool false)).setCell ⟨w.heap.size + 1 + 1, 7, none⟩ (.bool false)) = w9 at *
    obtain ⟨a0, a1, a2⟩ := vals (v := ⟨_, _, _⟩) f1
    obtain ⟨c0, c1, c2, c3, c4, c5, c6, c7⟩ := eights f2
    exact bodyPost_ret (v := .tuple #[.agg #[.bool va, .bool vb, .bool vc], .int .i64 0, .agg #[.int .u8 5, .int .u16 6656, .int .u64 0, .bool false, .int .i64 0, .int .i64 0, .bool false, .bool false], .bool false]) (by simp [results, Try.results21, go_sem, a0, a1, a2, c0, c1, c2, c3, c4, c5, c6, c7]) rfl
      ⟨_, _, _, _, .inr ⟨.inr e0.out, .inl ⟨.inl (by rw [hRl.out]; exact k2), rfl, rfl, rfl, rfl⟩⟩, rfl, (M4.out.drewN nq).trans f3 (fun i hi e => by omega)⟩
  · skip
    have d1 := hcs4.out 1 (by omega)
    have d1b := hcf4.out 1 (by omega) (by decide)
    have i1 : (1 : Int) < (m : Int) := by omega
    have j1 : decide ((m : Int) < 2) = false := by simp; omega
    have q1 := hbs.out 1 (by omega)
    have j2 : decide ((m : Int) < 12) = true := by simp; omega
    rw [k3] at d1 d1b
    replace k3 := hide k3
    clear q1
    go_quiet (fail)
    go_wp2_with fail
    obtain ⟨f1, f2, f3⟩ := set11 (E4.out.drew nq) (.bool va) (.bool vb) (.bool vc) (.int .u8 5) (.int .u16 6656) (.int .u64 0) (.bool false) (.int .i64 0) (.int .i64 0) (.bool false) (.bool false)
    generalize ((((((((((((w4.drewN nq).setCell ⟨w.heap.size + 1, 0, none⟩ (.bool va)).setCell ⟨w.heap.size + 1, 1, none⟩ (.bool vb)).setCell ⟨w.heap.size + 1, 2, none⟩ (.bool vc)).setCell ⟨w.heap.size + 1 + 1, 0, none⟩ (.int .u8 5)).setCell ⟨w.heap.size + 1 + 1, 1, none⟩ (.int .u16 6656)).setCell ⟨w.heap.size + 1 + 1, 2, none⟩ (.int .u64 0)).setCell ⟨w.heap.size + 1 + 1, 3, none⟩ (.bool false)).setCell ⟨w.heap.size + 1 + 1, 4, none⟩ (.int .i64 0)).setCell ⟨w.heap.size + 1 + 1, 5, none⟩ (.int .i64 0)).setCell ⟨w.heap.size + 1 + 1, 6, none⟩ (.bool false)).setCell ⟨w.heap.size + 1 + 1, 7, none⟩ (.bool false)) = w9 at *
    obtain ⟨a0, a1, a2⟩ := vals (v := ⟨_, _, _⟩) f1
    obtain ⟨c0, c1, c2, c3, c4, c5, c6, c7⟩ := eights f2
    exact bodyPost_ret (v := .tuple #[.agg #[.bool va, .bool vb, .bool vc], .int .i64 0, .agg #[.int .u8 5, .int .u16 6656, .int .u64 0, .bool false, .int .i64 0, .int .i64 0, .bool false, .bool false], .bool false]) (by simp [results, Try.results21, go_sem, a0, a1, a2, c0, c1, c2, c3, c4, c5, c6, c7]) rfl
      ⟨_, _, _, _, .inr ⟨.inr e0.out, .inl ⟨.inr ⟨by rw [hRl.out, hwn.out]; exact k2, by rw [hw1.out]; exact k3.out⟩, rfl, rfl, rfl, rfl⟩⟩, rfl, (M4.out.drewN nq).trans f3 (fun i hi e => by omega)⟩
  · skip
    have d1 := hcs4.out 1 (by omega)
    have d1b := hcf4.out 1 (by omega) (by decide)
    have i1 : (1 : Int) < (m : Int) := by omega
    have j1 : decide ((m : Int) < 2) = false := by simp; omega
    have q1 := hbs.out 1 (by omega)
    have j2 : decide ((m : Int) < 12) = true := by simp; omega
    have j3 : (gi R 1 == 10) = false := by simpa using k3
    have j4 : (gi R 1 != 10) = true := by simpa using k3
    have e6 : IntKind.i64.wrap ((at_ : Int) + 1) = (at_ : Int) + 1 := IntWalk.i64_in _ (by omega)
    replace k3 := hide k3
    clear q1
    go_quiet (fail)
    rename Nat => nq1
    go_wp2_with fail
    go_quiet (fail)
    go_wp2_with fail
    go_region_with (go_at_call 20; (with_reducible refine (badf_any _ _ _).mono ?_); rintro e w6 ⟨rfl, m6⟩
                    have m6' := (Mod.drewN (Mod.refl (fun _ => False) w4) _).trans m6 (by simp)
                    have E6 := E4.out.q m6'
                    have M6 := M4.out.trans m6' (by simp)
                    obtain ⟨⟨p60, p61, p62⟩, ⟨s60, s61, s62⟩, t60, t61, t62, t63, t64, t65, t66, t67⟩ := E6.cells
                    obtain ⟨F6, G6, H6⟩ := E6.frozen
                    have u60 := F6 0; have u61 := F6 1; have u62 := F6 2; have g60 := G6 0; have g61 := G6 1; have g62 := G6 2
                    have h60 := H6 0; have h61 := H6 1; have h62 := H6 2; have h63 := H6 3; have h64 := H6 4; have h65 := H6 5; have h66 := H6 6; have h67 := H6 7
                    clear F6 G6 H6
                    have z6 : w.heap.size + 1 + 1 < w6.heap.size := E6.size
                    have y6 : w.heap.size + 1 < w6.heap.size := by omega
                    have x6 : w.heap.size < w6.heap.size := by omega
                    replace E6 := hide E6; replace M6 := hide M6; replace m6 := hide m6; replace m6' := hide m6')
    all_goals
      go_wp2_with fail
      obtain ⟨f1, f2, f3⟩ := set11 E6.out (.bool va) (.bool vb) (.bool vc) (.int .u8 5) (.int .u16 9728) (.int .u64 0) (.bool false) (.int .i64 (↑at_ + 1)) (.int .i64 (-1)) (.bool true) (.bool false)
      generalize (((((((((((w6.setCell ⟨w.heap.size + 1, 0, none⟩ (.bool va)).setCell ⟨w.heap.size + 1, 1, none⟩ (.bool vb)).setCell ⟨w.heap.size + 1, 2, none⟩ (.bool vc)).setCell ⟨w.heap.size + 1 + 1, 0, none⟩ (.int .u8 5)).setCell ⟨w.heap.size + 1 + 1, 1, none⟩ (.int .u16 9728)).setCell ⟨w.heap.size + 1 + 1, 2, none⟩ (.int .u64 0)).setCell ⟨w.heap.size + 1 + 1, 3, none⟩ (.bool false)).setCell ⟨w.heap.size + 1 + 1, 4, none⟩ (.int .i64 (↑at_ + 1))).setCell ⟨w.heap.size + 1 + 1, 5, none⟩ (.int .i64 (-1))).setCell ⟨w.heap.size + 1 + 1, 6, none⟩ (.bool true)).setCell ⟨w.heap.size + 1 + 1, 7, none⟩ (.bool false)) = w9 at *
      obtain ⟨a0, a1, a2⟩ := vals (v := ⟨_, _, _⟩) f1
      obtain ⟨c0, c1, c2, c3, c4, c5, c6, c7⟩ := eights f2
      exact bodyPost_ret (v := .tuple #[.agg #[.bool va, .bool vb, .bool vc], .int .i64 0, .agg #[.int .u8 5, .int .u16 9728, .int .u64 0, .bool false, .int .i64 (↑at_ + 1), .int .i64 (-1), .bool true, .bool false], .bool false]) (by simp [results, Try.results21, go_sem, a0, a1, a2, c0, c1, c2, c3, c4, c5, c6, c7]) rfl
        ⟨_, _, _, _, .inr ⟨.inr e0.out, .inr (.inl ⟨by rw [hRl.out]; omega, by rw [hw1.out]; exact k3.out, rfl, rfl, rfl, rfl⟩)⟩, rfl, M6.out.trans f3 (fun i hi e => by omega)⟩
  · skip
    have d1 := hcs4.out 1 (by omega)
    have d1b := hcf4.out 1 (by omega) (by decide)
    have i1 : (1 : Int) < (m : Int) := by omega
    have j1 : decide ((m : Int) < 2) = false := by simp; omega
    have q1 := hbs.out 1 (by omega)
    have j2 : decide ((m : Int) < 12) = false := by simp; omega
    have j3 : (gi R 1 == 10) = false := by simpa using k3
    have j4 : (gi R 1 != 10) = true := by simpa using k3
    have e6 : IntKind.i64.wrap ((at_ : Int) + 1) = (at_ : Int) + 1 := IntWalk.i64_in _ (by omega)
    replace k3 := hide k3
    clear q1
    go_quiet (fail)
    rename Nat => nq1
    go_wp2_with fail
    go_quiet (fail)
    go_wp2_with fail
    go_region_with (go_at_call 20; (with_reducible refine (badf_any _ _ _).mono ?_); rintro e w6 ⟨rfl, m6⟩
                    have m6' := (Mod.drewN (Mod.refl (fun _ => False) w4) _).trans m6 (by simp)
                    have E6 := E4.out.q m6'
                    have M6 := M4.out.trans m6' (by simp)
                    obtain ⟨⟨p60, p61, p62⟩, ⟨s60, s61, s62⟩, t60, t61, t62, t63, t64, t65, t66, t67⟩ := E6.cells
                    obtain ⟨F6, G6, H6⟩ := E6.frozen
                    have u60 := F6 0; have u61 := F6 1; have u62 := F6 2; have g60 := G6 0; have g61 := G6 1; have g62 := G6 2
                    have h60 := H6 0; have h61 := H6 1; have h62 := H6 2; have h63 := H6 3; have h64 := H6 4; have h65 := H6 5; have h66 := H6 6; have h67 := H6 7
                    clear F6 G6 H6
                    have z6 : w.heap.size + 1 + 1 < w6.heap.size := E6.size
                    have y6 : w.heap.size + 1 < w6.heap.size := by omega
                    have x6 : w.heap.size < w6.heap.size := by omega
                    replace E6 := hide E6; replace M6 := hide M6; replace m6 := hide m6; replace m6' := hide m6')
    all_goals
      go_wp2_with fail
      obtain ⟨f1, f2, f3⟩ := set11 E6.out (.bool va) (.bool vb) (.bool vc) (.int .u8 5) (.int .u16 9728) (.int .u64 0) (.bool false) (.int .i64 (↑at_ + 1)) (.int .i64 (-1)) (.bool true) (.bool false)
      generalize (((((((((((w6.setCell ⟨w.heap.size + 1, 0, none⟩ (.bool va)).setCell ⟨w.heap.size + 1, 1, none⟩ (.bool vb)).setCell ⟨w.heap.size + 1, 2, none⟩ (.bool vc)).setCell ⟨w.heap.size + 1 + 1, 0, none⟩ (.int .u8 5)).setCell ⟨w.heap.size + 1 + 1, 1, none⟩ (.int .u16 9728)).setCell ⟨w.heap.size + 1 + 1, 2, none⟩ (.int .u64 0)).setCell ⟨w.heap.size + 1 + 1, 3, none⟩ (.bool false)).setCell ⟨w.heap.size + 1 + 1, 4, none⟩ (.int .i64 (↑at_ + 1))).setCell ⟨w.heap.size + 1 + 1, 5, none⟩ (.int .i64 (-1))).setCell ⟨w.heap.size + 1 + 1, 6, none⟩ (.bool true)).setCell ⟨w.heap.size + 1 + 1, 7, none⟩ (.bool false)) = w9 at *
      obtain ⟨a0, a1, a2⟩ := vals (v := ⟨_, _, _⟩) f1
      obtain ⟨c0, c1, c2, c3, c4, c5, c6, c7⟩ := eights f2
      exact bodyPost_ret (v := .tuple #[.agg #[.bool va, .bool vb, .bool vc], .int .i64 0, .agg #[.int .u8 5, .int .u16 9728, .int .u64 0, .bool false, .int .i64 (↑at_ + 1), .int .i64 (-1), .bool true, .bool false], .bool false]) (by simp [results, Try.results21, go_sem, a0, a1, a2, c0, c1, c2, c3, c4, c5, c6, c7]) rfl
        ⟨_, _, _, _, .inr ⟨.inr e0.out, .inr (.inl ⟨by rw [hRl.out]; omega, by rw [hw1.out]; exact k3.out, rfl, rfl, rfl, rfl⟩)⟩, rfl, M6.out.trans f3 (fun i hi e => by omega)⟩
  · skip
    have d1 := hcs4.out 1 (by omega)
    have d1b := hcf4.out 1 (by omega) (by decide)
    have i1 : (1 : Int) < (m : Int) := by omega
    have j1 : decide ((m : Int) < 2) = false := by simp; omega
    have q1 := hbs.out 1 (by omega)
    have j2 : decide ((m : Int) < 12) = false := by simp; omega
    rw [k3] at d1 d1b
    replace k3 := hide k3
    clear q1
    go_quiet (fail)
    rename Nat => nq1
    go_wp2_with fail
    go_quiet (fail)
    go_wp2_with fail
    go_loop [7, 9, 12, 13, 14] (fun _ _ u _ _ => ∃ i : Nat, 2 ≤ i ∧ i ≤ 12 ∧ u = .int .i64 i ∧ Hid (Clean R 10 i)) (fun _ _ u _ _ => 12 - (intOf u).toNat)
    case atStart => exact ⟨2, by omega, by omega, rfl, hide (fun j h1 h2 => by omega)⟩
    case round =>
      obtain ⟨i, hi2, hi, rfl, hR⟩ := hrel
      by_cases hlt : i < 12
      · have hx := hcs4.out i (by omega)
        obtain ⟨hx0, hx1⟩ := hbs.out i (by omega)
        have him : i < m := by omega
        have e5 : IntKind.i64.wrap ((at_ : Int) + i) = (at_ : Int) + i := IntWalk.i64_in _ (by omega)
        generalize hxx : gi R i = x at *
        replace hxx := hide hxx
        have hcase : i = 2 ∨ i = 4 ∨ (¬ i = 2 ∧ ¬ i = 4) := by omega
        rcases hcase with rfl | rfl | ⟨hn2, hn4⟩
        · skip
          have hcan : canB 10 2 = 4 := by decide
          have hxf := hcf4.out 2 (by omega) (by decide)
          rw [hxx.out] at hxf
          clear e5
          have e5 : IntKind.i64.wrap ((at_ : Int) + 2) = (at_ : Int) + 2 := IntWalk.i64_in _ (by omega)
          replace hcan := hide hcan
          go_wp2_with fail
          go_loop [7, 9, 14] (fun _ _ u => ∃ k : Nat, k ≤ 8 ∧ u = .int .i64 ((k : Int) - 1) ∧ Hid (∀ b', k ≤ b' → b' ≤ 7 → bitT x 4 b' = false)) (fun _ _ u => ((intOf u) + 1).toNat)
          case atStart => exact ⟨8, by omega, rfl, hide (fun b' h1 h2 => by omega)⟩
          case round =>
            obtain ⟨k, hk, rfl, hK⟩ := hrel
            by_cases hk0 : 0 < k
            · cases hbit : bitT x 4 (k - 1)
              · have hT : (bits BinOp.and IntKind.u8 (bits BinOp.andNot IntKind.u8 x 4 / 2 ^ (k - 1)) 1 == 1) = false := hbit
                have hK2 : ∀ b', k - 1 ≤ b' → b' ≤ 7 → bitT x 4 b' = false := fun b' h1 h2 => by
                  by_cases e : b' = k - 1
                  · rw [e]; exact hbit
                  · exact hK.out b' (by omega) h2
                replace hbit := hide hbit; replace hK2 := hide hK2
                go_wp2_with fail
                go_round
                case rel => exact ⟨k - 1, by omega, int_eq (by omega), hK2⟩
                case measure => simp [intOf]; omega
              · have hT : (bits BinOp.and IntKind.u8 (bits BinOp.andNot IntKind.u8 x 4 / 2 ^ (k - 1)) 1 == 1) = true := hbit
                have hfirst : First R (gi R 0) 2 (k - 1) := by
                  rw [e0.out]
                  refine ⟨by omega, by rw [← e0.out, hwn.out]; omega, by omega, hR.out, ?_, fun b' h1 h2 => ?_⟩
                  · rw [hcan.out, hxx.out]; exact hbit
                  · rw [hcan.out, hxx.out]; exact hK.out b' (by omega) h2
                replace hbit := hide hbit; replace hfirst := hide hfirst
                have hkk : ((k : Int) - 1) = ((k - 1 : Nat) : Int) := by omega
                replace hkk := hide hkk
                go_wp2_with fail
                go_region_with (go_at_call 20; (with_reducible refine (badf_any _ _ _).mono ?_); rintro e w6 ⟨rfl, m6⟩
                                have m6' := (Mod.drewN (Mod.refl (fun _ => False) w4) _).trans m6 (by simp)
                                have E6 := E4.out.q m6'
                                have M6 := M4.out.trans m6' (by simp)
                                obtain ⟨⟨p60, p61, p62⟩, ⟨s60, s61, s62⟩, t60, t61, t62, t63, t64, t65, t66, t67⟩ := E6.cells
                                obtain ⟨F6, G6, H6⟩ := E6.frozen
                                have u60 := F6 0; have u61 := F6 1; have u62 := F6 2; have g60 := G6 0; have g61 := G6 1; have g62 := G6 2
                                have h60 := H6 0; have h61 := H6 1; have h62 := H6 2; have h63 := H6 3; have h64 := H6 4; have h65 := H6 5; have h66 := H6 6; have h67 := H6 7
                                clear F6 G6 H6
                                have z6 : w.heap.size + 1 + 1 < w6.heap.size := E6.size
                                have y6 : w.heap.size + 1 < w6.heap.size := by omega
                                have x6 : w.heap.size < w6.heap.size := by omega
                                replace E6 := hide E6; replace M6 := hide M6; replace m6 := hide m6; replace m6' := hide m6')
                all_goals
                  go_wp2_with fail
                  obtain ⟨f1, f2, f3⟩ := set11 E6.out (.bool va) (.bool vb) (.bool vc) (.int .u8 5) (.int .u16 9728) (.int .u64 0) (.bool false) (.int .i64 (↑at_ + 2)) (.int .i64 (↑k - 1)) (.bool true) (.bool false)
                  generalize (((((((((((w6.setCell ⟨w.heap.size + 1, 0, none⟩ (.bool va)).setCell ⟨w.heap.size + 1, 1, none⟩ (.bool vb)).setCell ⟨w.heap.size + 1, 2, none⟩ (.bool vc)).setCell ⟨w.heap.size + 1 + 1, 0, none⟩ (.int .u8 5)).setCell ⟨w.heap.size + 1 + 1, 1, none⟩ (.int .u16 9728)).setCell ⟨w.heap.size + 1 + 1, 2, none⟩ (.int .u64 0)).setCell ⟨w.heap.size + 1 + 1, 3, none⟩ (.bool false)).setCell ⟨w.heap.size + 1 + 1, 4, none⟩ (.int .i64 (↑at_ + 2))).setCell ⟨w.heap.size + 1 + 1, 5, none⟩ (.int .i64 (↑k - 1))).setCell ⟨w.heap.size + 1 + 1, 6, none⟩ (.bool true)).setCell ⟨w.heap.size + 1 + 1, 7, none⟩ (.bool false)) = w9 at *
                  obtain ⟨a0, a1, a2⟩ := vals (v := ⟨_, _, _⟩) f1
                  obtain ⟨c0, c1, c2, c3, c4, c5, c6, c7⟩ := eights f2
                  exact bodyPost_ret (v := .tuple #[.agg #[.bool va, .bool vb, .bool vc], .int .i64 0, .agg #[.int .u8 5, .int .u16 9728, .int .u64 0, .bool false, .int .i64 (↑at_ + 2), .int .i64 (↑k - 1), .bool true, .bool false], .bool false]) (by simp [results, Try.results21, go_sem, a0, a1, a2, c0, c1, c2, c3, c4, c5, c6, c7]) rfl
                    ⟨_, _, (badS ((at_ : Int) + (2 : Nat)) ((k - 1 : Nat) : Int) false), _, .inr ⟨.inr e0.out, .inr (.inr (.inl ⟨by rw [hRl.out, hwn.out]; omega, by rw [hw1.out]; exact k3.out, 2, k - 1, hfirst.out, rfl, rfl, rfl, rfl⟩))⟩, by rw [← hkk.out]; rfl, M6.out.trans f3 (fun i hi e => by omega)⟩
            · obtain rfl : k = 0 := by omega
              have hcl : Clean R 10 (2 + 1) := fun j h1 h2 b' h3 => by
                by_cases e : j = 2
                · rw [e, hcan.out, hxx.out]; exact hK.out b' (by omega) h3
                · exact hR.out j h1 (by omega) b' h3
              replace hcl := hide hcl
              go_wp2_with fail
              go_round
              case rel => exact ⟨_, _, .int .i64 (((2 + 1 : Nat) : Int)), ⟨2 + 1, by omega, by omega, rfl, hcl⟩, rfl, rfl, by go_num⟩
              case measure => simp [intOf] <;> omega
        · skip
          have hcan : canB 10 4 = 8 := by decide
          have hxf := hcf4.out 4 (by omega) (by decide)
          rw [hxx.out] at hxf
          clear e5
          have e5 : IntKind.i64.wrap ((at_ : Int) + 4) = (at_ : Int) + 4 := IntWalk.i64_in _ (by omega)
          replace hcan := hide hcan
          go_wp2_with fail
          go_loop [7, 9, 14] (fun _ _ u => ∃ k : Nat, k ≤ 8 ∧ u = .int .i64 ((k : Int) - 1) ∧ Hid (∀ b', k ≤ b' → b' ≤ 7 → bitT x 8 b' = false)) (fun _ _ u => ((intOf u) + 1).toNat)
          case atStart => exact ⟨8, by omega, rfl, hide (fun b' h1 h2 => by omega)⟩
          case round =>
            obtain ⟨k, hk, rfl, hK⟩ := hrel
            by_cases hk0 : 0 < k
            · cases hbit : bitT x 8 (k - 1)
              · have hT : (bits BinOp.and IntKind.u8 (bits BinOp.andNot IntKind.u8 x 8 / 2 ^ (k - 1)) 1 == 1) = false := hbit
                have hK2 : ∀ b', k - 1 ≤ b' → b' ≤ 7 → bitT x 8 b' = false := fun b' h1 h2 => by
                  by_cases e : b' = k - 1
                  · rw [e]; exact hbit
                  · exact hK.out b' (by omega) h2
                replace hbit := hide hbit; replace hK2 := hide hK2
                go_wp2_with fail
                go_round
                case rel => exact ⟨k - 1, by omega, int_eq (by omega), hK2⟩
                case measure => simp [intOf]; omega
              · have hT : (bits BinOp.and IntKind.u8 (bits BinOp.andNot IntKind.u8 x 8 / 2 ^ (k - 1)) 1 == 1) = true := hbit
                have hfirst : First R (gi R 0) 4 (k - 1) := by
                  rw [e0.out]
                  refine ⟨by omega, by rw [← e0.out, hwn.out]; omega, by omega, hR.out, ?_, fun b' h1 h2 => ?_⟩
                  · rw [hcan.out, hxx.out]; exact hbit
                  · rw [hcan.out, hxx.out]; exact hK.out b' (by omega) h2
                replace hbit := hide hbit; replace hfirst := hide hfirst
                have hkk : ((k : Int) - 1) = ((k - 1 : Nat) : Int) := by omega
                replace hkk := hide hkk
                go_wp2_with fail
                go_region_with (go_at_call 20; (with_reducible refine (badf_any _ _ _).mono ?_); rintro e w6 ⟨rfl, m6⟩
                                have m6' := (Mod.drewN (Mod.refl (fun _ => False) w4) _).trans m6 (by simp)
                                have E6 := E4.out.q m6'
                                have M6 := M4.out.trans m6' (by simp)
                                obtain ⟨⟨p60, p61, p62⟩, ⟨s60, s61, s62⟩, t60, t61, t62, t63, t64, t65, t66, t67⟩ := E6.cells
                                obtain ⟨F6, G6, H6⟩ := E6.frozen
                                have u60 := F6 0; have u61 := F6 1; have u62 := F6 2; have g60 := G6 0; have g61 := G6 1; have g62 := G6 2
                                have h60 := H6 0; have h61 := H6 1; have h62 := H6 2; have h63 := H6 3; have h64 := H6 4; have h65 := H6 5; have h66 := H6 6; have h67 := H6 7
                                clear F6 G6 H6
                                have z6 : w.heap.size + 1 + 1 < w6.heap.size := E6.size
                                have y6 : w.heap.size + 1 < w6.heap.size := by omega
                                have x6 : w.heap.size < w6.heap.size := by omega
                                replace E6 := hide E6; replace M6 := hide M6; replace m6 := hide m6; replace m6' := hide m6')
                all_goals
                  go_wp2_with fail
                  obtain ⟨f1, f2, f3⟩ := set11 E6.out (.bool va) (.bool vb) (.bool vc) (.int .u8 5) (.int .u16 9728) (.int .u64 0) (.bool false) (.int .i64 (↑at_ + 4)) (.int .i64 (↑k - 1)) (.bool true) (.bool false)
                  generalize (((((((((((w6.setCell ⟨w.heap.size + 1, 0, none⟩ (.bool va)).setCell ⟨w.heap.size + 1, 1, none⟩ (.bool vb)).setCell ⟨w.heap.size + 1, 2, none⟩ (.bool vc)).setCell ⟨w.heap.size + 1 + 1, 0, none⟩ (.int .u8 5)).setCell ⟨w.heap.size + 1 + 1, 1, none⟩ (.int .u16 9728)).setCell ⟨w.heap.size + 1 + 1, 2, none⟩ (.int .u64 0)).setCell ⟨w.heap.size + 1 + 1, 3, none⟩ (.bool false)).setCell ⟨w.heap.size + 1 + 1, 4, none⟩ (.int .i64 (↑at_ + 4))).setCell ⟨w.heap.size + 1 + 1, 5, none⟩ (.int .i64 (↑k - 1))).setCell ⟨w.heap.size + 1 + 1, 6, none⟩ (.bool true)).setCell ⟨w.heap.size + 1 + 1, 7, none⟩ (.bool false)) = w9 at *
                  obtain ⟨a0, a1, a2⟩ := vals (v := ⟨_, _, _⟩) f1
                  obtain ⟨c0, c1, c2, c3, c4, c5, c6, c7⟩ := eights f2
                  exact bodyPost_ret (v := .tuple #[.agg #[.bool va, .bool vb, .bool vc], .int .i64 0, .agg #[.int .u8 5, .int .u16 9728, .int .u64 0, .bool false, .int .i64 (↑at_ + 4), .int .i64 (↑k - 1), .bool true, .bool false], .bool false]) (by simp [results, Try.results21, go_sem, a0, a1, a2, c0, c1, c2, c3, c4, c5, c6, c7]) rfl
                    ⟨_, _, (badS ((at_ : Int) + (4 : Nat)) ((k - 1 : Nat) : Int) false), _, .inr ⟨.inr e0.out, .inr (.inr (.inl ⟨by rw [hRl.out, hwn.out]; omega, by rw [hw1.out]; exact k3.out, 4, k - 1, hfirst.out, rfl, rfl, rfl, rfl⟩))⟩, by rw [← hkk.out]; rfl, M6.out.trans f3 (fun i hi e => by omega)⟩
            · obtain rfl : k = 0 := by omega
              have hcl : Clean R 10 (4 + 1) := fun j h1 h2 b' h3 => by
                by_cases e : j = 4
                · rw [e, hcan.out, hxx.out]; exact hK.out b' (by omega) h3
                · exact hR.out j h1 (by omega) b' h3
              replace hcl := hide hcl
              go_wp2_with fail
              go_round
              case rel => exact ⟨_, _, .int .i64 (((4 + 1 : Nat) : Int)), ⟨4 + 1, by omega, by omega, rfl, hcl⟩, rfl, rfl, by go_num⟩
              case measure => simp [intOf] <;> omega
        · skip
          have l2 : ((i : Int) == 2) = false := by simp; omega
          have l4 : ((i : Int) == 4) = false := by simp; omega
          have hcan : canB 10 i = 0 := by rw [canB, if_neg hn2, if_neg (fun h => hn4 h.1)]
          replace hcan := hide hcan
          go_wp2_with fail
          go_loop [7, 9, 14] (fun _ _ u => ∃ k : Nat, k ≤ 8 ∧ u = .int .i64 ((k : Int) - 1) ∧ Hid (∀ b', k ≤ b' → b' ≤ 7 → bitT x 0 b' = false)) (fun _ _ u => ((intOf u) + 1).toNat)
          case atStart => exact ⟨8, by omega, rfl, hide (fun b' h1 h2 => by omega)⟩
          case round =>
            obtain ⟨k, hk, rfl, hK⟩ := hrel
            by_cases hk0 : 0 < k
            · cases hbit : bitT x 0 (k - 1)
              · have hT : (bits BinOp.and IntKind.u8 (bits BinOp.andNot IntKind.u8 x 0 / 2 ^ (k - 1)) 1 == 1) = false := hbit
                have hK2 : ∀ b', k - 1 ≤ b' → b' ≤ 7 → bitT x 0 b' = false := fun b' h1 h2 => by
                  by_cases e : b' = k - 1
                  · rw [e]; exact hbit
                  · exact hK.out b' (by omega) h2
                replace hbit := hide hbit; replace hK2 := hide hK2
                go_wp2_with fail
                go_round
                case rel => exact ⟨k - 1, by omega, int_eq (by omega), hK2⟩
                case measure => simp [intOf]; omega
              · have hT : (bits BinOp.and IntKind.u8 (bits BinOp.andNot IntKind.u8 x 0 / 2 ^ (k - 1)) 1 == 1) = true := hbit
                have hfirst : First R (gi R 0) i (k - 1) := by
                  rw [e0.out]
                  refine ⟨by omega, by rw [← e0.out, hwn.out]; omega, by omega, hR.out, ?_, fun b' h1 h2 => ?_⟩
                  · rw [hcan.out, hxx.out]; exact hbit
                  · rw [hcan.out, hxx.out]; exact hK.out b' (by omega) h2
                replace hbit := hide hbit; replace hfirst := hide hfirst
                have hkk : ((k : Int) - 1) = ((k - 1 : Nat) : Int) := by omega
                replace hkk := hide hkk
                go_wp2_with fail
                go_region_with (go_at_call 20; (with_reducible refine (badf_any _ _ _).mono ?_); rintro e w6 ⟨rfl, m6⟩
                                have m6' := (Mod.drewN (Mod.refl (fun _ => False) w4) _).trans m6 (by simp)
                                have E6 := E4.out.q m6'
                                have M6 := M4.out.trans m6' (by simp)
                                obtain ⟨⟨p60, p61, p62⟩, ⟨s60, s61, s62⟩, t60, t61, t62, t63, t64, t65, t66, t67⟩ := E6.cells
                                obtain ⟨F6, G6, H6⟩ := E6.frozen
                                have u60 := F6 0; have u61 := F6 1; have u62 := F6 2; have g60 := G6 0; have g61 := G6 1; have g62 := G6 2
                                have h60 := H6 0; have h61 := H6 1; have h62 := H6 2; have h63 := H6 3; have h64 := H6 4; have h65 := H6 5; have h66 := H6 6; have h67 := H6 7
                                clear F6 G6 H6
                                have z6 : w.heap.size + 1 + 1 < w6.heap.size := E6.size
                                have y6 : w.heap.size + 1 < w6.heap.size := by omega
                                have x6 : w.heap.size < w6.heap.size := by omega
                                replace E6 := hide E6; replace M6 := hide M6; replace m6 := hide m6; replace m6' := hide m6')
                all_goals
                  go_wp2_with fail
                  obtain ⟨f1, f2, f3⟩ := set11 E6.out (.bool va) (.bool vb) (.bool vc) (.int .u8 5) (.int .u16 9728) (.int .u64 0) (.bool false) (.int .i64 (↑at_ + ↑i)) (.int .i64 (↑k - 1)) (.bool true) (.bool false)
                  generalize (((((((((((w6.setCell ⟨w.heap.size + 1, 0, none⟩ (.bool va)).setCell ⟨w.heap.size + 1, 1, none⟩ (.bool vb)).setCell ⟨w.heap.size + 1, 2, none⟩ (.bool vc)).setCell ⟨w.heap.size + 1 + 1, 0, none⟩ (.int .u8 5)).setCell ⟨w.heap.size + 1 + 1, 1, none⟩ (.int .u16 9728)).setCell ⟨w.heap.size + 1 + 1, 2, none⟩ (.int .u64 0)).setCell ⟨w.heap.size + 1 + 1, 3, none⟩ (.bool false)).setCell ⟨w.heap.size + 1 + 1, 4, none⟩ (.int .i64 (↑at_ + ↑i))).setCell ⟨w.heap.size + 1 + 1, 5, none⟩ (.int .i64 (↑k - 1))).setCell ⟨w.heap.size + 1 + 1, 6, none⟩ (.bool true)).setCell ⟨w.heap.size + 1 + 1, 7, none⟩ (.bool false)) = w9 at *
                  obtain ⟨a0, a1, a2⟩ := vals (v := ⟨_, _, _⟩) f1
                  obtain ⟨c0, c1, c2, c3, c4, c5, c6, c7⟩ := eights f2
                  exact bodyPost_ret (v := .tuple #[.agg #[.bool va, .bool vb, .bool vc], .int .i64 0, .agg #[.int .u8 5, .int .u16 9728, .int .u64 0, .bool false, .int .i64 (↑at_ + ↑i), .int .i64 (↑k - 1), .bool true, .bool false], .bool false]) (by simp [results, Try.results21, go_sem, a0, a1, a2, c0, c1, c2, c3, c4, c5, c6, c7]) rfl
                    ⟨_, _, (badS ((at_ : Int) + (i : Nat)) ((k - 1 : Nat) : Int) false), _, .inr ⟨.inr e0.out, .inr (.inr (.inl ⟨by rw [hRl.out, hwn.out]; omega, by rw [hw1.out]; exact k3.out, i, k - 1, hfirst.out, rfl, rfl, rfl, rfl⟩))⟩, by rw [← hkk.out]; rfl, M6.out.trans f3 (fun i hi e => by omega)⟩
            · obtain rfl : k = 0 := by omega
              have hcl : Clean R 10 (i + 1) := fun j h1 h2 b' h3 => by
                by_cases e : j = i
                · rw [e, hcan.out, hxx.out]; exact hK.out b' (by omega) h3
                · exact hR.out j h1 (by omega) b' h3
              replace hcl := hide hcl
              go_wp2_with fail
              go_round
              case rel => exact ⟨_, _, .int .i64 (((i + 1 : Nat) : Int)), ⟨i + 1, by omega, by omega, rfl, hcl⟩, rfl, rfl, by go_num⟩
              case measure => simp [intOf] <;> omega
      · obtain rfl : i = 12 := by omega
        have hcl : Clean R (gi R 0) (wn (gi R 0)) := by rw [hwn.out, e0.out]; exact hR.out
        replace hcl := hide hcl
        have d2 := hcs4.out 2 (by omega)
        have d2b := hcf4.out 2 (by omega) (by decide)
        have d4 := hcs4.out 4 (by omega)
        have d4b := hcf4.out 4 (by omega) (by decide)
        have i2 : (2 : Int) < (m : Int) := by omega
        have i4 : (4 : Int) < (m : Int) := by omega
        have q2 := hbs.out 2 (by omega)
        have q4 := hbs.out 4 (by omega)
        clear q2 q4
        go_wp2_with fail
        go_region
        go_wp2_with fail
        obtain ⟨Ea, ma⟩ := PEnv.set1 (E4.out.drew (nq1 + nq + 1)) (gi R 2 != 0)
        obtain ⟨Eb, mb⟩ := Ea.set2 (gi R 4 != 0)
        obtain ⟨f1, f2, f3⟩ := set11 Eb (.bool va) (.bool (gi R 2 != 0)) (.bool (gi R 4 != 0)) (.int .u8 0) (.int .u16 0) (.int .u64 0) (.bool false) (.int .i64 0) (.int .i64 0) (.bool false) (.bool false)
        generalize ((((((((((((((w4.drewN (nq1 + nq + 1)).setCell ⟨w.heap.size, 1, none⟩ (.bool (gi R 2 != 0))).setCell ⟨w.heap.size, 2, none⟩ (.bool (gi R 4 != 0))).setCell ⟨w.heap.size + 1, 0, none⟩ (.bool va)).setCell ⟨w.heap.size + 1, 1, none⟩ (.bool (gi R 2 != 0))).setCell ⟨w.heap.size + 1, 2, none⟩ (.bool (gi R 4 != 0))).setCell ⟨w.heap.size + 1 + 1, 0, none⟩ (.int .u8 0)).setCell ⟨w.heap.size + 1 + 1, 1, none⟩ (.int .u16 0)).setCell ⟨w.heap.size + 1 + 1, 2, none⟩ (.int .u64 0)).setCell ⟨w.heap.size + 1 + 1, 3, none⟩ (.bool false)).setCell ⟨w.heap.size + 1 + 1, 4, none⟩ (.int .i64 0)).setCell ⟨w.heap.size + 1 + 1, 5, none⟩ (.int .i64 0)).setCell ⟨w.heap.size + 1 + 1, 6, none⟩ (.bool false)).setCell ⟨w.heap.size + 1 + 1, 7, none⟩ (.bool false)) = w9 at *
        obtain ⟨a0, a1, a2⟩ := vals (v := ⟨_, _, _⟩) f1
        obtain ⟨c0, c1, c2, c3, c4, c5, c6, c7⟩ := eights f2
        exact bodyPost_ret (v := .tuple #[.agg #[.bool va, .bool (gi R 2 != 0), .bool (gi R 4 != 0)], .int .i64 12, .agg #[.int .u8 0, .int .u16 0, .int .u64 0, .bool false, .int .i64 0, .int .i64 0, .bool false, .bool false], .bool true]) (by simp [results, Try.results21, go_sem, a0, a1, a2, c0, c1, c2, c3, c4, c5, c6, c7] <;> first | rfl | exact ⟨rfl, rfl⟩) rfl
          ⟨⟨va, gi R 2 != 0, gi R 4 != 0⟩, 12, noSense, _, .inr ⟨.inr e0.out, .inr (.inr (.inr ⟨by rw [hRl.out, hwn.out]; exact k1, by rw [hw1.out]; exact k3.out, hcl.out, (if_neg (fun h => absurd (e0.out.symm.trans h) (by decide))).symm, by rw [hwn.out]; rfl, rfl, rfl⟩))⟩, rfl, (((M4.out.drewN (nq1 + nq + 1)).trans ma (fun i hi e => by omega)).trans mb (fun i hi e => by omega)).trans f3 (fun i hi e => by omega)⟩
end Go.Proofs.Ytieieinaijopnaa
