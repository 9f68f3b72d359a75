/-
  cdb.kind, cdb.Usage, walked, at the commands that the laws give. No condition.
-/
import Derived.Test.YtjkpelbhhapebaaGreatDoorRec
import Derived.Test.YtjkpelbhhapebaaGreatDoorOdd
namespace Go.Proofs.YtjkpelbhhapebaaGreatDoor
open Go.RowKit
set_option maxRecDepth 100000
def kindOf : List (Int × Int) := [(0, 1), (3, 2), (21, 4), (26, 5), (95, 16), (136, 7), (137, 14), (138, 8), (145, 11), (147, 12)]
theorem kind_any (op k : Int) (h : (op, k) ∈ kindOf) (w : World) : Calls Tryz.prog 47 #[.int .u8 op] w fun e w' => e = .returned (.int .u8 k) ∧ w = w' := by
  simp only [kindOf, List.mem_cons, Prod.mk.injEq, List.not_mem_nil, or_false] at h
  rcases h with ⟨rfl, rfl⟩ | ⟨rfl, rfl⟩ | ⟨rfl, rfl⟩ | ⟨rfl, rfl⟩ | ⟨rfl, rfl⟩ | ⟨rfl, rfl⟩ | ⟨rfl, rfl⟩ | ⟨rfl, rfl⟩ | ⟨rfl, rfl⟩ | ⟨rfl, rfl⟩
  all_goals
    go_enter Tryz.func47, Tryz.ntmps47
    go_wp2
    go_ret
    exact ⟨rfl, rfl⟩
/-- What Usage answers: a row of bytes. -/
def UsA (w : World) (L : List Int) (b : Bool) (e : Ending) (w' : World) : Prop := ∃ A c, e = .returned (.tuple #[.slice A L.length c, .bool b]) ∧ Row w' 5 1 (ic .u8) (.slice A L.length c) L ∧ Mod (fun _ => False) w w' ∧ (∀ k, (Value.slice A L.length c).ownBlock = some k → w.heap.size ≤ k)
set_option maxHeartbeats 1000000 in
theorem usage_00 (sv : Int) (w : World) : Calls Tryz.prog 45 #[.int .u8 0, .int .u8 sv] w (UsA w [0, 0, 0, 0, 0, 0] true) := by
  go_enter Tryz.func45, Tryz.ntmps45
  go_wp2
  go_ret2
  exact ⟨_, _, rfl, row_lit (l := [0, 0, 0, 0, 0, 0]) (heap_alloc2_new _ _ _) (by decide), ((Mod.refl _ w).alloc _).alloc _, fun k hk => by simp [Value.ownBlock] at hk; omega⟩
set_option maxHeartbeats 1000000 in
theorem usage_03 (sv : Int) (w : World) : Calls Tryz.prog 45 #[.int .u8 3, .int .u8 sv] w (UsA w [3, 1, 0, 0, 255, 0] true) := by
  go_enter Tryz.func45, Tryz.ntmps45
  go_wp2
  go_ret2
  exact ⟨_, _, rfl, row_lit (l := [3, 1, 0, 0, 255, 0]) (heap_alloc2_new _ _ _) (by decide), ((Mod.refl _ w).alloc _).alloc _, fun k hk => by simp [Value.ownBlock] at hk; omega⟩
set_option maxHeartbeats 1000000 in
theorem usage_15 (sv : Int) (w : World) : Calls Tryz.prog 45 #[.int .u8 21, .int .u8 sv] w (UsA w [21, 17, 0, 0, 255, 0] true) := by
  go_enter Tryz.func45, Tryz.ntmps45
  go_wp2
  go_ret2
  exact ⟨_, _, rfl, row_lit (l := [21, 17, 0, 0, 255, 0]) (heap_alloc2_new _ _ _) (by decide), ((Mod.refl _ w).alloc _).alloc _, fun k hk => by simp [Value.ownBlock] at hk; omega⟩
set_option maxHeartbeats 1000000 in
theorem usage_1a (sv : Int) (w : World) : Calls Tryz.prog 45 #[.int .u8 26, .int .u8 sv] w (UsA w [26, 8, 255, 0, 255, 0] true) := by
  go_enter Tryz.func45, Tryz.ntmps45
  go_wp2
  go_ret2
  exact ⟨_, _, rfl, row_lit (l := [26, 8, 255, 0, 255, 0]) (heap_alloc2_new _ _ _) (by decide), ((Mod.refl _ w).alloc _).alloc _, fun k hk => by simp [Value.ownBlock] at hk; omega⟩
set_option maxHeartbeats 1000000 in
theorem usage_5f (sv : Int) (hs : 0 ≤ sv ∧ sv ≤ 6) (w : World) : Calls Tryz.prog 45 #[.int .u8 95, .int .u8 sv] w (UsA w [95, 31, 15, 0, 0, 255, 255, 255, 255, 0] true) := by
  have d1 : decide (sv ≤ 6) = true := by simpa using hs.2
  go_enter Tryz.func45, Tryz.ntmps45
  go_wp2
  go_ret2
  exact ⟨_, _, rfl, row_lit (l := [95, 31, 15, 0, 0, 255, 255, 255, 255, 0]) (heap_alloc2_new _ _ _) (by decide), ((Mod.refl _ w).alloc _).alloc _, fun k hk => by simp [Value.ownBlock] at hk; omega⟩
set_option maxHeartbeats 2000000 in
theorem usage_88 (sv : Int) (w : World) : Calls Tryz.prog 45 #[.int .u8 136, .int .u8 sv] w (UsA w [136, 248, 255, 255, 255, 255, 255, 255, 255, 255, 255, 255, 255, 255, 0, 0] true) := by
  have hwd := rd_block (k := .u8) (l := [255, 255, 255, 255, 255, 255, 255, 255, 255, 255, 255, 255]) (heap_alloc2_old w (.cells ([255, 255, 255, 255, 255, 255, 255, 255, 255, 255, 255, 255].map (Value.int .u8)).toArray 5) (.cells ([136, 248].map (Value.int .u8)).toArray 5)) rfl
  have hrw := row_lit (k := .u8) (l := [136, 248]) (heap_alloc2_new w (.cells ([255, 255, 255, 255, 255, 255, 255, 255, 255, 255, 255, 255].map (Value.int .u8)).toArray 5) (.cells ([136, 248].map (Value.int .u8)).toArray 5)) (by decide)
  have m1 : Mod (fun _ => False) w ((w.alloc (.cells ([255, 255, 255, 255, 255, 255, 255, 255, 255, 255, 255, 255].map (Value.int .u8)).toArray 5)).alloc (.cells ([136, 248].map (Value.int .u8)).toArray 5)) := ((Mod.refl _ w).alloc _).alloc _
  simp only [List.map_cons, List.map_nil] at hwd hrw m1
  replace hwd := hide hwd; replace hrw := hide hrw; replace m1 := hide m1
  go_enter Tryz.func45, Tryz.ntmps45
  go_wp2_with (first
    | (at_builtin; refine list_app (.tmp 98) (.tmp 99) 22 5 _ 1 1 (ic .u8) rfl rfl (ic_len _) (ic_one _) Tryz.underlying22 elemU8 (.slice (some ⟨w.heap.size + 1, 0, none⟩) 2 2) [136, 248] (some ⟨w.heap.size, 0, none⟩) 12 12 [255, 255, 255, 255, 255, 255, 255, 255, 255, 255, 255, 255] rfl rfl hrw.out hwd.out (by simp [maxLen]) (by simp) ?_; intro v2 w2 h2 g2 a2; obtain ⟨A2, n2, cap2, rfl⟩ := h2.form
       have m2 : Mod (fun _ => False) w w2 := m1.out.grown g2 fun k hk => by
         simp [Value.ownBlock] at hk; right; omega
       have o2 : ∀ k, (Value.slice A2 n2 cap2).ownBlock = some k → w.heap.size ≤ k := fun k hk => by
         rcases a2 with e | e <;> rw [e] at hk <;> simp [Value.ownBlock] at hk <;> omega
       replace m2 := hide m2; replace h2 := hide h2; replace o2 := hide o2; replace a2 := hide a2; replace g2 := hide g2)
    | (at_builtin; refine list_app (.tmp 100) (.tmp 101) 22 5 _ 1 1 (ic .u8) rfl rfl (ic_len _) (ic_one _) Tryz.underlying22 elemU8 (.slice A2 n2 cap2) ([136, 248] ++ [255, 255, 255, 255, 255, 255, 255, 255, 255, 255, 255, 255]) (some ⟨w2.heap.size, 0, none⟩) 2 2 [0, 0] rfl rfl (h2.out.alloc _) (rd_block (l := [0, 0]) (heap_alloc_new _ _) rfl) (by simp [maxLen]) (by simp) ?_; intro v3 w3 h3 g3 a3
       have m3 : Mod (fun _ => False) w w3 := (m2.out.alloc _).grown g3 fun k hk => .inr (o2.out k hk)
       have h3' : Row w3 5 1 (ic .u8) v3 [136, 248, 255, 255, 255, 255, 255, 255, 255, 255, 255, 255, 255, 255, 0, 0] := h3
       obtain ⟨A3, cap3, rfl, -, -⟩ := h3'.slice
       have o3 : ∀ k, (Value.slice A3 16 cap3).ownBlock = some k → w.heap.size ≤ k := fun k hk => by
         rcases a3 with e | e <;> simp only [List.length_cons, List.length_nil, Nat.reduceAdd] at e <;> rw [e] at hk
         · exact o2.out k hk
         · have := m2.out.size
           simp at hk; omega
       clear h3
       simp only [List.length_cons, List.length_nil, Nat.reduceAdd] at h3'
       replace m3 := hide m3; replace h3' := hide h3'; replace o3 := hide o3; replace a3 := hide a3; replace g3 := hide g3))
  go_ret2
  exact ⟨_, _, rfl, h3'.out, m3.out, o3.out⟩
set_option maxHeartbeats 2000000 in
theorem usage_8a (sv : Int) (w : World) : Calls Tryz.prog 45 #[.int .u8 138, .int .u8 sv] w (UsA w [138, 248, 255, 255, 255, 255, 255, 255, 255, 255, 255, 255, 255, 255, 0, 0] true) := by
  have hwd := rd_block (k := .u8) (l := [255, 255, 255, 255, 255, 255, 255, 255, 255, 255, 255, 255]) (heap_alloc2_old w (.cells ([255, 255, 255, 255, 255, 255, 255, 255, 255, 255, 255, 255].map (Value.int .u8)).toArray 5) (.cells ([138, 248].map (Value.int .u8)).toArray 5)) rfl
  have hrw := row_lit (k := .u8) (l := [138, 248]) (heap_alloc2_new w (.cells ([255, 255, 255, 255, 255, 255, 255, 255, 255, 255, 255, 255].map (Value.int .u8)).toArray 5) (.cells ([138, 248].map (Value.int .u8)).toArray 5)) (by decide)
  have m1 : Mod (fun _ => False) w ((w.alloc (.cells ([255, 255, 255, 255, 255, 255, 255, 255, 255, 255, 255, 255].map (Value.int .u8)).toArray 5)).alloc (.cells ([138, 248].map (Value.int .u8)).toArray 5)) := ((Mod.refl _ w).alloc _).alloc _
  simp only [List.map_cons, List.map_nil] at hwd hrw m1
  replace hwd := hide hwd; replace hrw := hide hrw; replace m1 := hide m1
  go_enter Tryz.func45, Tryz.ntmps45
  go_wp2_with (first
    | (at_builtin; refine list_app (.tmp 98) (.tmp 99) 22 5 _ 1 1 (ic .u8) rfl rfl (ic_len _) (ic_one _) Tryz.underlying22 elemU8 (.slice (some ⟨w.heap.size + 1, 0, none⟩) 2 2) [138, 248] (some ⟨w.heap.size, 0, none⟩) 12 12 [255, 255, 255, 255, 255, 255, 255, 255, 255, 255, 255, 255] rfl rfl hrw.out hwd.out (by simp [maxLen]) (by simp) ?_; intro v2 w2 h2 g2 a2; obtain ⟨A2, n2, cap2, rfl⟩ := h2.form
       have m2 : Mod (fun _ => False) w w2 := m1.out.grown g2 fun k hk => by
         simp [Value.ownBlock] at hk; right; omega
       have o2 : ∀ k, (Value.slice A2 n2 cap2).ownBlock = some k → w.heap.size ≤ k := fun k hk => by
         rcases a2 with e | e <;> rw [e] at hk <;> simp [Value.ownBlock] at hk <;> omega
       replace m2 := hide m2; replace h2 := hide h2; replace o2 := hide o2; replace a2 := hide a2; replace g2 := hide g2)
    | (at_builtin; refine list_app (.tmp 100) (.tmp 101) 22 5 _ 1 1 (ic .u8) rfl rfl (ic_len _) (ic_one _) Tryz.underlying22 elemU8 (.slice A2 n2 cap2) ([138, 248] ++ [255, 255, 255, 255, 255, 255, 255, 255, 255, 255, 255, 255]) (some ⟨w2.heap.size, 0, none⟩) 2 2 [0, 0] rfl rfl (h2.out.alloc _) (rd_block (l := [0, 0]) (heap_alloc_new _ _) rfl) (by simp [maxLen]) (by simp) ?_; intro v3 w3 h3 g3 a3
       have m3 : Mod (fun _ => False) w w3 := (m2.out.alloc _).grown g3 fun k hk => .inr (o2.out k hk)
       have h3' : Row w3 5 1 (ic .u8) v3 [138, 248, 255, 255, 255, 255, 255, 255, 255, 255, 255, 255, 255, 255, 0, 0] := h3
       obtain ⟨A3, cap3, rfl, -, -⟩ := h3'.slice
       have o3 : ∀ k, (Value.slice A3 16 cap3).ownBlock = some k → w.heap.size ≤ k := fun k hk => by
         rcases a3 with e | e <;> simp only [List.length_cons, List.length_nil, Nat.reduceAdd] at e <;> rw [e] at hk
         · exact o2.out k hk
         · have := m2.out.size
           simp at hk; omega
       clear h3
       simp only [List.length_cons, List.length_nil, Nat.reduceAdd] at h3'
       replace m3 := hide m3; replace h3' := hide h3'; replace o3 := hide o3; replace a3 := hide a3; replace g3 := hide g3))
  go_ret2
  exact ⟨_, _, rfl, h3'.out, m3.out, o3.out⟩
set_option maxHeartbeats 2000000 in
theorem usage_89 (sv : Int) (w : World) : Calls Tryz.prog 45 #[.int .u8 137, .int .u8 sv] w (UsA w [137, 248, 255, 255, 255, 255, 255, 255, 255, 255, 0, 0, 0, 255, 0, 0] true) := by
  have hwd := rd_block (k := .u8) (l := [255, 255, 255, 255, 255, 255, 255, 255, 255, 255, 255, 255]) (heap_alloc2_old w (.cells ([255, 255, 255, 255, 255, 255, 255, 255, 255, 255, 255, 255].map (Value.int .u8)).toArray 5) (.cells ([137, 248].map (Value.int .u8)).toArray 5)) rfl
  have hrw := row_lit (k := .u8) (l := [137, 248]) (heap_alloc2_new w (.cells ([255, 255, 255, 255, 255, 255, 255, 255, 255, 255, 255, 255].map (Value.int .u8)).toArray 5) (.cells ([137, 248].map (Value.int .u8)).toArray 5)) (by decide)
  have m1 : Mod (fun _ => False) w ((w.alloc (.cells ([255, 255, 255, 255, 255, 255, 255, 255, 255, 255, 255, 255].map (Value.int .u8)).toArray 5)).alloc (.cells ([137, 248].map (Value.int .u8)).toArray 5)) := ((Mod.refl _ w).alloc _).alloc _
  simp only [List.map_cons, List.map_nil] at hwd hrw m1
  replace hwd := hide hwd; replace hrw := hide hrw; replace m1 := hide m1
  go_enter Tryz.func45, Tryz.ntmps45
  go_wp2_with (first
    | (at_builtin; refine list_app (.tmp 106) (.tmp 108) 22 5 _ 1 1 (ic .u8) rfl rfl (ic_len _) (ic_one _) Tryz.underlying22 elemU8 (.slice (some ⟨w.heap.size + 1, 0, none⟩) 2 2) [137, 248] (some ⟨w.heap.size, 0, none⟩) 8 12 [255, 255, 255, 255, 255, 255, 255, 255] rfl rfl hrw.out (hwd.out.take 8 (by decide)) (by simp [maxLen]) (by simp) ?_; intro v2 w2 h2 g2 a2; obtain ⟨A2, n2, cap2, rfl⟩ := h2.form
       have m2 : Mod (fun _ => False) w w2 := m1.out.grown g2 fun k hk => by
         simp [Value.ownBlock] at hk; right; omega
       have o2 : ∀ k, (Value.slice A2 n2 cap2).ownBlock = some k → w.heap.size ≤ k := fun k hk => by
         rcases a2 with e | e <;> rw [e] at hk <;> simp [Value.ownBlock] at hk <;> omega
       replace m2 := hide m2; replace h2 := hide h2; replace o2 := hide o2; replace a2 := hide a2; replace g2 := hide g2)
    | (at_builtin; refine list_app (.tmp 109) (.tmp 110) 22 5 _ 1 1 (ic .u8) rfl rfl (ic_len _) (ic_one _) Tryz.underlying22 elemU8 (.slice A2 n2 cap2) ([137, 248] ++ [255, 255, 255, 255, 255, 255, 255, 255]) (some ⟨w2.heap.size, 0, none⟩) 6 6 [0, 0, 0, 255, 0, 0] rfl rfl (h2.out.alloc _) (rd_block (l := [0, 0, 0, 255, 0, 0]) (heap_alloc_new _ _) rfl) (by simp [maxLen]) (by simp) ?_; intro v3 w3 h3 g3 a3
       have m3 : Mod (fun _ => False) w w3 := (m2.out.alloc _).grown g3 fun k hk => .inr (o2.out k hk)
       have h3' : Row w3 5 1 (ic .u8) v3 [137, 248, 255, 255, 255, 255, 255, 255, 255, 255, 0, 0, 0, 255, 0, 0] := h3
       obtain ⟨A3, cap3, rfl, -, -⟩ := h3'.slice
       have o3 : ∀ k, (Value.slice A3 16 cap3).ownBlock = some k → w.heap.size ≤ k := fun k hk => by
         rcases a3 with e | e <;> simp only [List.length_cons, List.length_nil, Nat.reduceAdd] at e <;> rw [e] at hk
         · exact o2.out k hk
         · have := m2.out.size
           simp at hk; omega
       clear h3
       simp only [List.length_cons, List.length_nil, Nat.reduceAdd] at h3'
       replace m3 := hide m3; replace h3' := hide h3'; replace o3 := hide o3; replace a3 := hide a3; replace g3 := hide g3))
  go_ret2
  exact ⟨_, _, rfl, h3'.out, m3.out, o3.out⟩
set_option maxHeartbeats 2000000 in
theorem usage_91 (sv : Int) (w : World) : Calls Tryz.prog 45 #[.int .u8 145, .int .u8 sv] w (UsA w [145, 0, 255, 255, 255, 255, 255, 255, 255, 255, 255, 255, 255, 255, 0, 0] true) := by
  have hwd := rd_block (k := .u8) (l := [255, 255, 255, 255, 255, 255, 255, 255, 255, 255, 255, 255]) (heap_alloc2_old w (.cells ([255, 255, 255, 255, 255, 255, 255, 255, 255, 255, 255, 255].map (Value.int .u8)).toArray 5) (.cells ([145, 0].map (Value.int .u8)).toArray 5)) rfl
  have hrw := row_lit (k := .u8) (l := [145, 0]) (heap_alloc2_new w (.cells ([255, 255, 255, 255, 255, 255, 255, 255, 255, 255, 255, 255].map (Value.int .u8)).toArray 5) (.cells ([145, 0].map (Value.int .u8)).toArray 5)) (by decide)
  have m1 : Mod (fun _ => False) w ((w.alloc (.cells ([255, 255, 255, 255, 255, 255, 255, 255, 255, 255, 255, 255].map (Value.int .u8)).toArray 5)).alloc (.cells ([145, 0].map (Value.int .u8)).toArray 5)) := ((Mod.refl _ w).alloc _).alloc _
  simp only [List.map_cons, List.map_nil] at hwd hrw m1
  replace hwd := hide hwd; replace hrw := hide hrw; replace m1 := hide m1
  go_enter Tryz.func45, Tryz.ntmps45
  go_wp2_with (first
    | (at_builtin; refine list_app (.tmp 115) (.tmp 116) 22 5 _ 1 1 (ic .u8) rfl rfl (ic_len _) (ic_one _) Tryz.underlying22 elemU8 (.slice (some ⟨w.heap.size + 1, 0, none⟩) 2 2) [145, 0] (some ⟨w.heap.size, 0, none⟩) 12 12 [255, 255, 255, 255, 255, 255, 255, 255, 255, 255, 255, 255] rfl rfl hrw.out hwd.out (by simp [maxLen]) (by simp) ?_; intro v2 w2 h2 g2 a2; obtain ⟨A2, n2, cap2, rfl⟩ := h2.form
       have m2 : Mod (fun _ => False) w w2 := m1.out.grown g2 fun k hk => by
         simp [Value.ownBlock] at hk; right; omega
       have o2 : ∀ k, (Value.slice A2 n2 cap2).ownBlock = some k → w.heap.size ≤ k := fun k hk => by
         rcases a2 with e | e <;> rw [e] at hk <;> simp [Value.ownBlock] at hk <;> omega
       replace m2 := hide m2; replace h2 := hide h2; replace o2 := hide o2; replace a2 := hide a2; replace g2 := hide g2)
    | (at_builtin; refine list_app (.tmp 117) (.tmp 118) 22 5 _ 1 1 (ic .u8) rfl rfl (ic_len _) (ic_one _) Tryz.underlying22 elemU8 (.slice A2 n2 cap2) ([145, 0] ++ [255, 255, 255, 255, 255, 255, 255, 255, 255, 255, 255, 255]) (some ⟨w2.heap.size, 0, none⟩) 2 2 [0, 0] rfl rfl (h2.out.alloc _) (rd_block (l := [0, 0]) (heap_alloc_new _ _) rfl) (by simp [maxLen]) (by simp) ?_; intro v3 w3 h3 g3 a3
       have m3 : Mod (fun _ => False) w w3 := (m2.out.alloc _).grown g3 fun k hk => .inr (o2.out k hk)
       have h3' : Row w3 5 1 (ic .u8) v3 [145, 0, 255, 255, 255, 255, 255, 255, 255, 255, 255, 255, 255, 255, 0, 0] := h3
       obtain ⟨A3, cap3, rfl, -, -⟩ := h3'.slice
       have o3 : ∀ k, (Value.slice A3 16 cap3).ownBlock = some k → w.heap.size ≤ k := fun k hk => by
         rcases a3 with e | e <;> simp only [List.length_cons, List.length_nil, Nat.reduceAdd] at e <;> rw [e] at hk
         · exact o2.out k hk
         · have := m2.out.size
           simp at hk; omega
       clear h3
       simp only [List.length_cons, List.length_nil, Nat.reduceAdd] at h3'
       replace m3 := hide m3; replace h3' := hide h3'; replace o3 := hide o3; replace a3 := hide a3; replace g3 := hide g3))
  go_ret2
  exact ⟨_, _, rfl, h3'.out, m3.out, o3.out⟩
set_option maxHeartbeats 2000000 in
theorem usage_93 (sv : Int) (w : World) : Calls Tryz.prog 45 #[.int .u8 147, .int .u8 sv] w (UsA w [147, 232, 255, 255, 255, 255, 255, 255, 255, 255, 255, 255, 255, 255, 0, 0] true) := by
  have hwd := rd_block (k := .u8) (l := [255, 255, 255, 255, 255, 255, 255, 255, 255, 255, 255, 255]) (heap_alloc2_old w (.cells ([255, 255, 255, 255, 255, 255, 255, 255, 255, 255, 255, 255].map (Value.int .u8)).toArray 5) (.cells ([147, 232].map (Value.int .u8)).toArray 5)) rfl
  have hrw := row_lit (k := .u8) (l := [147, 232]) (heap_alloc2_new w (.cells ([255, 255, 255, 255, 255, 255, 255, 255, 255, 255, 255, 255].map (Value.int .u8)).toArray 5) (.cells ([147, 232].map (Value.int .u8)).toArray 5)) (by decide)
  have m1 : Mod (fun _ => False) w ((w.alloc (.cells ([255, 255, 255, 255, 255, 255, 255, 255, 255, 255, 255, 255].map (Value.int .u8)).toArray 5)).alloc (.cells ([147, 232].map (Value.int .u8)).toArray 5)) := ((Mod.refl _ w).alloc _).alloc _
  simp only [List.map_cons, List.map_nil] at hwd hrw m1
  replace hwd := hide hwd; replace hrw := hide hrw; replace m1 := hide m1
  go_enter Tryz.func45, Tryz.ntmps45
  go_wp2_with (first
    | (at_builtin; refine list_app (.tmp 123) (.tmp 124) 22 5 _ 1 1 (ic .u8) rfl rfl (ic_len _) (ic_one _) Tryz.underlying22 elemU8 (.slice (some ⟨w.heap.size + 1, 0, none⟩) 2 2) [147, 232] (some ⟨w.heap.size, 0, none⟩) 12 12 [255, 255, 255, 255, 255, 255, 255, 255, 255, 255, 255, 255] rfl rfl hrw.out hwd.out (by simp [maxLen]) (by simp) ?_; intro v2 w2 h2 g2 a2; obtain ⟨A2, n2, cap2, rfl⟩ := h2.form
       have m2 : Mod (fun _ => False) w w2 := m1.out.grown g2 fun k hk => by
         simp [Value.ownBlock] at hk; right; omega
       have o2 : ∀ k, (Value.slice A2 n2 cap2).ownBlock = some k → w.heap.size ≤ k := fun k hk => by
         rcases a2 with e | e <;> rw [e] at hk <;> simp [Value.ownBlock] at hk <;> omega
       replace m2 := hide m2; replace h2 := hide h2; replace o2 := hide o2; replace a2 := hide a2; replace g2 := hide g2)
    | (at_builtin; refine list_app (.tmp 125) (.tmp 126) 22 5 _ 1 1 (ic .u8) rfl rfl (ic_len _) (ic_one _) Tryz.underlying22 elemU8 (.slice A2 n2 cap2) ([147, 232] ++ [255, 255, 255, 255, 255, 255, 255, 255, 255, 255, 255, 255]) (some ⟨w2.heap.size, 0, none⟩) 2 2 [0, 0] rfl rfl (h2.out.alloc _) (rd_block (l := [0, 0]) (heap_alloc_new _ _) rfl) (by simp [maxLen]) (by simp) ?_; intro v3 w3 h3 g3 a3
       have m3 : Mod (fun _ => False) w w3 := (m2.out.alloc _).grown g3 fun k hk => .inr (o2.out k hk)
       have h3' : Row w3 5 1 (ic .u8) v3 [147, 232, 255, 255, 255, 255, 255, 255, 255, 255, 255, 255, 255, 255, 0, 0] := h3
       obtain ⟨A3, cap3, rfl, -, -⟩ := h3'.slice
       have o3 : ∀ k, (Value.slice A3 16 cap3).ownBlock = some k → w.heap.size ≤ k := fun k hk => by
         rcases a3 with e | e <;> simp only [List.length_cons, List.length_nil, Nat.reduceAdd] at e <;> rw [e] at hk
         · exact o2.out k hk
         · have := m2.out.size
           simp at hk; omega
       clear h3
       simp only [List.length_cons, List.length_nil, Nat.reduceAdd] at h3'
       replace m3 := hide m3; replace h3' := hide h3'; replace o3 := hide o3; replace a3 := hide a3; replace g3 := hide g3))
  go_ret2
  exact ⟨_, _, rfl, h3'.out, m3.out, o3.out⟩
end Go.Proofs.YtjkpelbhhapebaaGreatDoor
