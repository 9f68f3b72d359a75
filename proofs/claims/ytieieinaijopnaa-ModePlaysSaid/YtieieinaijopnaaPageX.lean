/-
  The walk of mode.page, where the page is none of the two. Condition: a slice of bytes and a place within it.
-/
import Derived.Test.YtieieinaijopnaaPage
namespace Go.Proofs.Ytieieinaijopnaa
open Go.RowKit

/-- What is known ahead of the walk. -/
structure Pre (A : Addr) (at_ m c : Nat) (L : List Int) (w : World) : Prop where
  hm1 : 1 ≤ m
  hmc : m ≤ c
  hc : at_ + c ≤ maxLen
  hr : Rd w 1 (ic .u8) (some A) (at_ + m) L
  hb : ∀ x ∈ L, 0 ≤ x ∧ x ≤ 255
set_option maxRecDepth 100000 in
set_option maxHeartbeats 4000000 in
theorem page_x (A : Addr) (m c at_ : Nat) (L : List Int) (v : V) (w : World) (hp : Pre A at_ m c L w) (n8 : ¬ gi (L.drop at_) 0 = 8) (n10 : ¬ gi (L.drop at_) 0 = 10) :
    Calls Try.prog 21 #[.slice (some A) (at_ + m) (at_ + c), .int .i64 at_, vv v] w (PagePost (L.drop at_) at_ v w) := by
  obtain ⟨hm1, hmc, hcm, hr, hb⟩ := hp
  replace hcm : at_ + c ≤ 9223372036854775807 := hcm
  have hL : L.length = at_ + m := hr.1
  have hRl : (L.drop at_).length = m := by simp [hL]
  have hgi : ∀ i, gi (L.drop at_) i = gi L (at_ + i) := fun i => by simp [gi, List.getD_eq_getElem?_getD]
  have hcs : ∀ i, i < m → w.cell? ((A.add at_).add i) = some (.int .u8 (gi (L.drop at_) i)) := fun i hi => by
    obtain ⟨ad, e, hc⟩ := hr.int (at_ + i) (by omega)
    obtain rfl := Option.some.inj e
    rw [addr_add, hc, hgi]
  have hbs : ∀ i, i < m → 0 ≤ gi (L.drop at_) i ∧ gi (L.drop at_) i ≤ 255 := fun i hi => by
    rw [hgi, gi_eq L _ (by omega)]
    exact hb _ (List.getElem_mem _)
  clear hr hb hgi hL
  generalize L.drop at_ = R at *
  have hc0 : w.cell? (A.add at_) = some (.int .u8 (gi R 0)) := by have := hcs 0 (by omega); rwa [show (A.add at_).add 0 = A.add at_ from by simp [Addr.add]] at this
  have hk0 : (A.add at_).block < w.heap.size := World.block_lt_of_cell? w _ hc0
  have hk1 : (A.add at_).block < w.heap.size + 1 := by omega
  have hk2 : (A.add at_).block < w.heap.size + 1 + 1 := by omega
  have hcap1 : ¬ at_ + c = at_ := by omega
  have hcap2 : at_ ≤ at_ + c := by omega
  have hcap3 : (at_ : Int) ≤ (at_ : Int) + m := by omega
  have hcap4 : (at_ : Int) ≤ (at_ : Int) + c := by omega
  obtain ⟨b, hbw⟩ : ∃ b, b = w.heap.size := ⟨_, rfl⟩
  obtain ⟨va, vb, vc⟩ := v
  have m0 : Mod (fun _ => False) w (((w.alloc (.cells #[.bool va, .bool vb, .bool vc] 23)).alloc (.cells #[.bool false, .bool false, .bool false] 23)).alloc (.cells #[.int .u8 0, .int .u16 0, .int .u64 0, .bool false, .int .i64 0, .int .i64 0, .bool false, .bool false] 31)) := (((Mod.refl _ w).alloc _).alloc _).alloc _
  have E0 : PEnv (((w.alloc (.cells #[.bool va, .bool vb, .bool vc] 23)).alloc (.cells #[.bool false, .bool false, .bool false] 23)).alloc (.cells #[.int .u8 0, .int .u16 0, .int .u64 0, .bool false, .int .i64 0, .int .i64 0, .bool false, .bool false] 31)) w.heap.size ⟨va, vb, vc⟩ :=
    ⟨(((Mod.refl (fun _ => False) _).alloc _).alloc _).heap (heap_alloc_new w _) (by simp), ((Mod.refl (fun _ => False) _).alloc _).heap (heap_alloc2_new w _ _) (by simp), by have := heap_alloc_new ((w.alloc (.cells #[.bool va, .bool vb, .bool vc] 23)).alloc (.cells #[.bool false, .bool false, .bool false] 23)) (.cells #[.int .u8 0, .int .u16 0, .int .u64 0, .bool false, .int .i64 0, .int .i64 0, .bool false, .bool false] 31); simpa using this⟩
  replace hbw := hide hbw; replace m0 := hide m0; replace E0 := hide E0; replace hcs := hide hcs; replace hbs := hide hbs; replace hRl := hide hRl
  have e8 : (gi R 0 == 8) = false := by simpa using n8
  have e10 : (gi R 0 == 10) = false := by simpa using n10
  replace n8 := hide n8; replace n10 := hide n10
  go_enter Try.func21, Try.ntmps21
  go_wp2_with fail
  go_region_with (go_at_call 20; (with_reducible refine (badf_any _ _ _).mono ?_); rintro e w6 ⟨rfl, m6⟩
                  have m6' := (Mod.drewN (Mod.refl (fun _ => False) _) 1).trans m6 (by simp)
                  have E6 := E0.out.q m6'
                  have M6 := m0.out.trans m6' (by simp)
                  obtain ⟨⟨p60, p61, p62⟩, ⟨s60, s61, s62⟩, t60, t61, t62, t63, t64, t65, t66, t67⟩ := E6.cells
                  obtain ⟨F6, G6, H6⟩ := E6.frozen
                  have u60 := F6 0; have u61 := F6 1; have u62 := F6 2; have g60 := G6 0; have g61 := G6 1; have g62 := G6 2
                  have h60 := H6 0; have h61 := H6 1; have h62 := H6 2; have h63 := H6 3; have h64 := H6 4; have h65 := H6 5; have h66 := H6 6; have h67 := H6 7
                  clear F6 G6 H6
                  have z6 : w.heap.size + 1 + 1 < w6.heap.size := E6.size
                  have y6 : w.heap.size + 1 < w6.heap.size := by omega
                  have x6 : w.heap.size < w6.heap.size := by omega
                  replace E6 := hide E6; replace M6 := hide M6; replace m6 := hide m6; replace m6' := hide m6')
  all_goals
    go_wp2_with fail
    obtain ⟨f1, f2, f3⟩ := set11 E6.out (.bool va) (.bool vb) (.bool vc) (.int .u8 5) (.int .u16 9728) (.int .u64 0) (.bool false) (.int .i64 at_) (.int .i64 (-1)) (.bool true) (.bool false)
    generalize (((((((((((w6.setCell ⟨w.heap.size + 1, 0, none⟩ (.bool va)).setCell ⟨w.heap.size + 1, 1, none⟩ (.bool vb)).setCell ⟨w.heap.size + 1, 2, none⟩ (.bool vc)).setCell ⟨w.heap.size + 1 + 1, 0, none⟩ (.int .u8 5)).setCell ⟨w.heap.size + 1 + 1, 1, none⟩ (.int .u16 9728)).setCell ⟨w.heap.size + 1 + 1, 2, none⟩ (.int .u64 0)).setCell ⟨w.heap.size + 1 + 1, 3, none⟩ (.bool false)).setCell ⟨w.heap.size + 1 + 1, 4, none⟩ (.int .i64 at_)).setCell ⟨w.heap.size + 1 + 1, 5, none⟩ (.int .i64 (-1))).setCell ⟨w.heap.size + 1 + 1, 6, none⟩ (.bool true)).setCell ⟨w.heap.size + 1 + 1, 7, none⟩ (.bool false)) = w9 at *
    obtain ⟨a0, a1, a2⟩ := vals (v := ⟨_, _, _⟩) f1
    obtain ⟨c0, c1, c2, c3, c4, c5, c6, c7⟩ := eights f2
    exact bodyPost_ret (v := .tuple #[.agg #[.bool va, .bool vb, .bool vc], .int .i64 0, .agg #[.int .u8 5, .int .u16 9728, .int .u64 0, .bool false, .int .i64 at_, .int .i64 (-1), .bool true, .bool false], .bool false]) (by simp [results, Try.results21, go_sem, a0, a1, a2, c0, c1, c2, c3, c4, c5, c6, c7]) rfl
      ⟨_, _, _, _, .inl ⟨n8.out, n10.out, rfl, rfl, rfl, rfl⟩, rfl, M6.out.trans f3 (fun i hi e => by omega)⟩
end Go.Proofs.Ytieieinaijopnaa
