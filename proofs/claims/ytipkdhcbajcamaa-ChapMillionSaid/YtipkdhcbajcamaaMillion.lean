/-
  The walk of ChapMillion. No condition.
-/
import Derived.Test.YtipkdhcbajcamaaSums
namespace Go.Proofs.Ytipkdhcbajcamaa.chapMillion
open Go.ChangeShapes Go.WideShapes Go.ChangeAt Go.RowKit Go.Deep
open chapSums (info_md)
/-- The first k numbers. -/
def bl (k : Nat) : List Int := (List.range k).map fun (i : Nat) => (i : Int)
theorem bl_len (k : Nat) : (bl k).length = k := by simp [bl]
theorem bl_snoc (k : Nat) : bl k ++ [(k : Int)] = bl (k + 1) := by simp [bl, List.range_succ]
theorem bl_by (k : Nat) (h : k ≤ 200) : ∀ x ∈ bl k, 0 ≤ x ∧ x ≤ 255 := by
  intro x hx
  simp only [bl, List.mem_map, List.mem_range] at hx
  obtain ⟨i, hi, rfl⟩ := hx
  omega

set_option maxRecDepth 100000 in
set_option maxHeartbeats 2000000 in
theorem walk0 (w : World) :
    Calls Try.prog 4 #[] w fun e w' => e = .returned (.bool true) ∧ Below w.heap.size w w' := by
  have hS0 : Hid (Sr w w (.slice none 0 0) (bl 0)) := hide ⟨Mod.refl _ w, Row.nil _ _ _ _, by simp [Value.ownBlock]⟩
  go_enter Try.func4, Try.ntmps4
  go_wp2
  go_loopw [1, 2] (fun v i wr => ∃ (k : Nat) (A : Option Addr) (c : Nat), k ≤ 200 ∧ i = .int .i64 k ∧ v = .slice A k c ∧ Hid (Sr w wr v (bl k))) (fun _ i _ => 200 - (intOf i).toNat)
  case atStart => exact ⟨0, none, 0, by omega, rfl, rfl, hS0⟩
  case round =>
    clear hS0
    obtain ⟨k, A, c, hk, rfl, rfl, hS⟩ := hrel
    by_cases hlt : k < 200
    · have st1 := fun w => run_storeCells_new (P := Try.prog) w 24 #[.int .u8 0, .int .u8 0, .int .u8 0, .int .u8 0, .int .u8 0, .int .u8 0, .int .u8 0, .int .u8 0, .int .u8 0, .int .u8 0, .int .u8 0, .int .u8 0, .int .u8 0, .int .u8 0, .int .u8 0, .int .u8 0] ((md (bl k)).map (Value.int .u8)).toArray (info_md _) (by simp [md_len]) (ones _)
      obtain ⟨V, hV⟩ : ∃ V, V = ((md (bl k)).map (Value.int .u8)).toArray := ⟨_, rfl⟩
      rw [← hV] at st1
      have hVs : V.size = 16 := by rw [hV]; simp [md_len]
      obtain ⟨S, hSt⟩ : ∃ S, S = strOf (md (bl k)) := ⟨_, rfl⟩
      have hb := hide (bl_by k hk)
      have r1 := hide (hS.out.2.1.rd (ic_len _) rfl)
      replace hSt := hide hSt
      replace hV := hide hV
      go_wp2_with (first
        | (go_at_call 8; (with_reducible refine (sum_any _ _ _ (bl k) _ r1.out (by omega) hb).mono ?_); rintro e w2 ⟨rfl, m2⟩; rw [← hV.out]
           have r2 := hide ((hS.out.2.1.mod m2 (fun _ _ h => h)).alloc (.cells V 24))
           have hw2 : (w2.alloc (.cells V 24)).heap[w2.heap.size]? = some (.cells ((md (bl k)).map (Value.int .u8)).toArray 24 (0, 0)) := by rw [← hV.out]; exact heap_alloc_new w2 _
           have M2 := hide ((hS.out.1.trans m2 (fun _ _ h => h)).alloc (.cells V 24))
           replace hw2 := hide hw2
           clear m2))
      have r2d : Hid (Row (w2.alloc (.cells V 24)).drew 5 1 (ic .u8) (.slice A k c) (bl k)) := r2
      have r3d : Hid (Rd (w2.alloc (.cells V 24)).drew 1 (ic .u8) A k (bl k)) := hide (r2d.out.rd (ic_len _) rfl)
      have hw2d : Hid ((w2.alloc (.cells V 24)).drew.heap[w2.heap.size]? = some (.cells ((md (bl k)).map (Value.int .u8)).toArray 24 (0, 0))) := hw2
      have cs3 : (convert 22 9 (.slice (some ⟨w2.heap.size, 0, none⟩) 16 16)).run Try.prog (w2.alloc (.cells V 24)).drew = .ok (.string S) (w2.alloc (.cells V 24)).drew := by
        have := conv_str (c := 16) (w := (w2.alloc (.cells V 24)).drew) (rd_md (l := bl k) (t := 24) hw2.out)
        rw [← hSt.out] at this
        exact this
      go_region_with (first
        | (go_at_call 9; (with_reducible refine (rsum_any _ _ _ (bl k) _ r3d.out (by omega) hb).mono ?_); rintro e w3 ⟨v3, rfl, r3, o3, m3⟩
           have hw3 := Mod.heap (F := fun _ => False) m3 hw2d.out (fun h => h)
           have cs4 := conv_str (c := 16) (rd_md hw3)
           rw [← hSt.out] at cs4
           obtain ⟨A3, c3, hv3, -, -⟩ := r3.slice
           rw [md_len] at hv3
           have cs5 := conv_str (c := c3) (r3.rd (ic_len _) hv3)
           rw [← hSt.out] at cs5
           have R3 := hide (r2d.out.mod m3 (fun _ _ h => h))
           have M3 := hide ((M2.out.drew).trans m3 (fun _ _ h => h))
           have hS3 : Hid (Sr w w3 (.slice A k c) (bl k)) := hide ⟨M3.out, R3.out, hS.out.2.2⟩
           replace r3 := hide r3
           replace m3 := hide m3
           replace hw3 := hide hw3
           subst hv3))
      all_goals
        go_wp2_with (first
          | (at_builtin; refine list_app (.tmp 16) (.tmp 19) 22 5 _ 1 1 (ic .u8) rfl rfl (ic_len _) (ic_one _) Try.underlying22 elem5 (.slice A k c) (bl k) (some ⟨w3.heap.size, 0, none⟩) 1 1 [(k : Int)] rfl rfl (hS3.out.2.1.alloc _) (Rd.box w3 (ic .u8) _ 5) ?_ ?_ ?_
             (rw [bl_len]; simp [maxLen]; omega)
             (rw [bl_len]; omega)
             intro v4 w4 r4 g4 a4
             obtain ⟨A4, c4, hv4, -, -⟩ := r4.slice
             rw [bl_snoc] at r4 hv4
             rw [bl_len] at hv4
             have hS4 : Hid (Sr w w4 v4 (bl (k + 1))) := hide (hS3.out.app r4 g4 a4)
             subst hv4))
        go_roundw
        case rel => exact ⟨k + 1, A4, c4, by omega, by go_num, rfl, hS4⟩
        case measure => simp [intOf]; omega
    · have hk2 : k = 200 := by omega
      replace hk2 := hide hk2
      go_wp2_with (first
        | (go_at_call 7; (with_reducible refine (awake_any _).mono ?_); rintro e w1 ⟨rfl, m1⟩
           replace m1 := hide m1))
      go_ret
      exact ⟨rfl, (hS.out.1.trans m1.out (fun _ _ h => h)).below (Nat.le_refl _) (fun _ h => h.elim)⟩
end Go.Proofs.Ytipkdhcbajcamaa.chapMillion
