/-
  The walk of ChapSums. No condition but the form's own reach.
-/
import Derived.Test.YtipkdhcbajcamaaAwake
import Derived.Test.YtipkdhcbajcamaaRSumw
import Derived.Test.YtipkdhcbajcamaaOpen
namespace Go.Proofs.Ytipkdhcbajcamaa.chapSums
open Go.ChangeShapes Go.WideShapes Go.ChangeAt Go.RowKit Go.Deep

theorem info_md (l : List Int) : (Try.prog.info? 24).map (·.size) = some ((md l).map (Value.int .u8)).toArray.size := by
  rw [show ((md l).map (Value.int .u8)).toArray.size = 16 from by simp [md_len]]
  kernel_rfl
set_option maxHeartbeats 2000000 in
theorem walk0 (A : Option Addr) (len cap : Nat) (l : List Int) (w : World) (hr : Rd w 1 (ic .u8) A len l) (hb : ∀ x ∈ l, 0 ≤ x ∧ x ≤ 255) (hreach : len ≤ 140737488351232) :
    Calls Try.prog 3 #[.slice A len cap] w fun e w' => e = .returned (.bool true) ∧ Below w.heap.size w w' := by
  have st1 := fun w => run_storeCells_new (P := Try.prog) w 24 #[.int .u8 0, .int .u8 0, .int .u8 0, .int .u8 0, .int .u8 0, .int .u8 0, .int .u8 0, .int .u8 0, .int .u8 0, .int .u8 0, .int .u8 0, .int .u8 0, .int .u8 0, .int .u8 0, .int .u8 0, .int .u8 0] ((md l).map (Value.int .u8)).toArray (info_md l) (by simp [md_len]) (ones _)
  obtain ⟨V, hV⟩ : ∃ V, V = ((md l).map (Value.int .u8)).toArray := ⟨_, rfl⟩
  rw [← hV] at st1
  have hVs : V.size = 16 := by rw [hV]; simp [md_len]
  obtain ⟨S, hS⟩ : ∃ S, S = strOf (md l) := ⟨_, rfl⟩
  replace hS := hide hS
  replace hV := hide hV
  replace hb := hide hb
  replace hr := hide hr
  go_enter Try.func3, Try.ntmps3
  go_wp2_with (first
    | (go_at_call 7; (with_reducible refine (awake_any _).mono ?_); rintro e w1 ⟨rfl, m1⟩
       have r1 := hide (hr.out.mod m1 (fun _ _ h => h))
       replace m1 := hide m1)
    | (go_at_call 8; (with_reducible refine (sum_any _ _ _ l _ r1.out hreach hb).mono ?_); rintro e w2 ⟨rfl, m2⟩; rw [← hV.out]
       have r2 := hide ((r1.out.mod m2 (fun _ _ h => h)).alloc (.cells V 24))
       have hw2 : (w2.alloc (.cells V 24)).heap[w2.heap.size]? = some (.cells ((md l).map (Value.int .u8)).toArray 24 (0, 0)) := by rw [← hV.out]; exact heap_alloc_new w2 _
       have cs2 := conv_str (c := 16) (rd_md hw2)
       rw [← hS.out] at cs2
       have M2 := hide ((m1.out.trans m2 (fun _ _ h => h)).alloc (.cells V 24))
       replace hw2 := hide hw2
       clear m2))
  have r3d : Hid (Rd (w2.alloc (.cells V 24)).drew 1 (ic .u8) A len l) := r2
  have hw2d : Hid ((w2.alloc (.cells V 24)).drew.heap[w2.heap.size]? = some (.cells ((md l).map (Value.int .u8)).toArray 24 (0, 0))) := hw2
  have cs3 : (convert 22 9 (.slice (some ⟨w2.heap.size, 0, none⟩) 16 16)).run Try.prog (w2.alloc (.cells V 24)).drew = .ok (.string S) (w2.alloc (.cells V 24)).drew := by
    have := conv_str (c := 16) (w := (w2.alloc (.cells V 24)).drew) (rd_md (l := l) (t := 24) hw2.out)
    rw [← hS.out] at this
    exact this
  go_region_with (first
    | (go_at_call 9; (with_reducible refine (rsum_any _ _ _ l _ r3d.out hreach hb).mono ?_); rintro e w3 ⟨v3, rfl, r3, o3, m3⟩
       have hw3 := Mod.heap (F := fun _ => False) m3 hw2d.out (fun h => h)
       have cs4 := conv_str (c := 16) (rd_md hw3)
       rw [← hS.out] at cs4
       obtain ⟨A3, c3, hv3, -, -⟩ := r3.slice
       rw [md_len] at hv3
       have cs5 := conv_str (c := c3) (r3.rd (ic_len _) hv3)
       rw [← hS.out] at cs5
       replace r3 := hide r3
       replace m3 := hide m3
       replace hw3 := hide hw3
       subst hv3))
  all_goals
    go_wp2_with fail
    go_ret
    exact ⟨rfl, ((M2.out.drew).trans m3.out (fun _ _ h => h)).below (Nat.le_refl _) (fun _ h => h.elim)⟩
end Go.Proofs.Ytipkdhcbajcamaa.chapSums
