/-
  Answer and Right, walked on both sides. Conditions: short texts.
-/
import Derived.Test.YtipkdhcbajcamaaRHex
import Derived.Test.YtipkdhcbajcamaaRSumw
import Derived.Deep.AppendSrc
import Derived.Deep.Upon
namespace Go.Proofs.Ytipkdhcbajcamaa
open Go.RowKit
theorem byteCells_sb (s : ByteArray) : byteCells s = (sb s).map (Value.int .u8) := by
  simp [byteCells, sb, List.map_map]
/-- One byte, and a text behind it. -/
theorem run_str (w : World) (ty : TypeId) (g : Nat) (c : Int) (s : ByteArray) (hv : Row w 5 1 (ic .u8) (.slice (some ⟨g, 0, none⟩) 1 1) [c]) (hs : s.size ≤ 1048576) :
    ∃ v' w', (Builtin.append_ #[22, 9] ty #[.slice (some ⟨g, 0, none⟩) 1 1, .string s]).run Try.prog w = .ok v' w' ∧ Row w' 5 1 (ic .u8) v' (c :: sb s) ∧ Mod (fun _ => False) w w' ∧ (∀ k, v'.ownBlock = some k → g ≤ k) := by
  obtain ⟨hinfo, hz, hsz⟩ := elem5
  obtain ⟨i0, hi, hzz⟩ := Option.map_eq_some_iff.1 hinfo
  simp only [Prod.mk.injEq] at hzz
  obtain ⟨hz0, hz1, hz2⟩ := hzz
  have hgl : g < w.heap.size := hv.lt g rfl
  have hsrc : Src Try.prog i0.size 9 (.string s) s.size (byteCells s) w := by rw [hz1]; exact Src.ofString w Try.underlying9 s
  by_cases h0 : s.size = 0
  · have hb : byteCells s = [] := List.eq_nil_of_length_eq_zero (by rw [byteCells_length]; exact h0)
    have hn : sb s = [] := List.eq_nil_of_length_eq_zero (by rw [sb_len]; exact h0)
    rw [hb, h0] at hsrc
    have hr := run_append_nothing (P := Try.prog) w 22 9 ty 5 i0 Try.underlying22 hi (some ⟨g, 0, none⟩) 1 1 (Nat.le_refl _) (.string s) hsrc
    refine ⟨_, w, hr, by rw [hn]; exact hv, Mod.refl _ _, fun k hk => ?_⟩
    simp [Value.ownBlock] at hk
    omega
  · have hcell := World.ownsRow.cells (w := w) hv (g := g) rfl
    have hfc : (Builtin.firstCells i0.size 1 (.slice (some ⟨g, 0, none⟩) 1 1)).run Try.prog w.drew = .ok ([c].flatMap (ic .u8)).toArray w.drew := by
      rw [hz1]
      exact run_firstCells_some (w := w.drew) 1 1 ⟨g, 0, none⟩ 1 1 _ rfl hcell
    have hr := run_append_grow_src (P := Try.prog) w 22 9 ty 5 i0 _ Try.underlying22 hi hz0 (some ⟨g, 0, none⟩) 1 1 ([c].flatMap (ic .u8)) hfc (.string s) s.size (byteCells s) hsrc (by omega) (by omega) (by rw [hz2]; exact growslice_fits (by omega) (by omega))
    have hge := grownCap_ge w (1 + s.size) 1 5
    have hcm : grownCap w (1 + s.size) 1 5 ≤ maxLen := grownCap_le_maxLen w (1 + s.size) 1 5 (by simp [maxLen]; omega)
    have hcells : [c].flatMap (ic .u8) ++ byteCells s = (c :: sb s).flatMap (ic .u8) := by
      rw [flat_ic, flat_ic, byteCells_sb]; rfl
    have hl : (c :: sb s).length = 1 + s.size := by simp [sb_len]; omega
    rw [hcells] at hr
    refine ⟨_, _, hr, ⟨by rw [flat_ic]; simp, .inr ⟨w.heap.size, _, _, by rw [hl], Nat.zero_le _, heap_alloc_new w.drew _, by rw [hl]; exact hge, hcm, ?_, ?_⟩⟩, ((Mod.refl _ w).drew).alloc _, fun k hk => ?_⟩
    · have h1 : ((c :: sb s).flatMap (ic .u8)).toArray.size = 1 + s.size := by rw [flat_ic]; simp [sb_len]; omega
      rw [Array.size_append, h1, size_zeroCells, hz]
      omega
    · have h1 : ((c :: sb s).flatMap (ic .u8)).length = (c :: sb s).length * 1 := by rw [flat_ic]; simp
      rw [Array.toList_append, ← h1]
      exact List.take_left
    · simp [Value.ownBlock] at hk
      omega
section
variable {w : World} {ops : Array Oper} {rest : List Oper} {o : Oper} {a : Act} {Q : Exit → Act → World → Prop}
theorem list_str (x y : Operand) (ho : o.op = .call { callee := .builtin .append, args := #[x, y], argTypes := #[22, 9] }) (hgd : o.guard = none) (g : Nat) (c : Int) (s : ByteArray)
    (hx : a.eval x = .slice (some ⟨g, 0, none⟩) 1 1) (hy : a.eval y = .string s) (hv : Row w 5 1 (ic .u8) (.slice (some ⟨g, 0, none⟩) 1 1) [c]) (hs : s.size ≤ 1048576)
    (h : ∀ v' w', Row w' 5 1 (ic .u8) v' (c :: sb s) → Mod (fun _ => False) w w' → (∀ k, v'.ownBlock = some k → g ≤ k) → wpList Try.prog ops Q rest (a.put o.dst v') w') : wpList Try.prog ops Q (o :: rest) a w :=
  wpList_plain hgd fun _ hK => by
    obtain ⟨v', w', hrun, h2, h3, h4⟩ := run_str w o.type g c s hv hs
    unfold Oper.wp execOp
    simp only [ho, resolve, invoke, builtin, Sem.run_bind, Sem.run_pure, Result.andThen_ok, List.map_toArray, List.map_cons, List.map_nil, hx, hy, hrun]
    exact hK _ _ (h v' w' h2 h3 h4)
end
theorem info_md (l : List Int) : (Try.prog.info? 24).map (·.size) = some ((md l).map (Value.int .u8)).toArray.size := by
  rw [show ((md l).map (Value.int .u8)).toArray.size = 16 from by simp [md_len]]
  kernel_rfl
theorem row_lit (w : World) (c : Int) : Row (w.alloc (.cells #[.int .u8 c] 5)) 5 1 (ic .u8) (.slice (some ⟨w.heap.size, 0, none⟩) 1 1) [c] :=
  World.ownsRow_lit (base := 0) (size := 1) w #[.int .u8 c] 1 (by omega) (by decide) rfl
/-- What is mixed: the number, the secret, the challenge. -/
def mixL (c : Int) (s : ByteArray) (l : List Int) : List Int := (c :: sb s) ++ l
theorem mixL_len (c : Int) (s : ByteArray) (l : List Int) : (mixL c s l).length = 1 + s.size + l.length := by simp [mixL, sb_len]; omega
theorem mixL_by {c : Int} {s : ByteArray} {l : List Int} (hc : 0 ≤ c ∧ c ≤ 255) (hl : ∀ x ∈ l, 0 ≤ x ∧ x ≤ 255) : ∀ x ∈ mixL c s l, 0 ≤ x ∧ x ≤ 255 := by
  intro x hx
  simp only [mixL, List.mem_append, List.mem_cons] at hx
  rcases hx with (rfl | hx) | hx
  · exact hc
  · exact sb_by s x hx
  · exact hl x hx
/-- The answer. -/
def ansS (c : Int) (s : ByteArray) (l : List Int) : ByteArray := strOf (hexL (md (mixL c s l)))

set_option maxHeartbeats 2000000 in
theorem ans_any (c : Int) (s : ByteArray) (A : Option Addr) (len cap : Nat) (l : List Int) (w : World) (hc : 0 ≤ c ∧ c ≤ 255) (hs : s.size ≤ 1048576) (hn : len ≤ 1048576) (hr : Rd w 1 (ic .u8) A len l) (hby : Hid (∀ x ∈ l, 0 ≤ x ∧ x ≤ 255)) :
    Calls Try.prog 14 #[.int .u8 c, .string s, .slice A len cap] w fun e w' => e = .returned (.string (ansS c s l)) ∧ Mod (fun _ => False) w w' := by
  have HL : Hid (l.length = len) := hr.1
  have st1 := fun w => run_storeCells_new (P := Try.prog) w 24 #[.int .u8 0, .int .u8 0, .int .u8 0, .int .u8 0, .int .u8 0, .int .u8 0, .int .u8 0, .int .u8 0, .int .u8 0, .int .u8 0, .int .u8 0, .int .u8 0, .int .u8 0, .int .u8 0, .int .u8 0, .int .u8 0] ((md (mixL c s l)).map (Value.int .u8)).toArray (info_md _) (by simp [md_len]) (ones _)
  obtain ⟨V, hV⟩ : ∃ V, V = ((md (mixL c s l)).map (Value.int .u8)).toArray := ⟨_, rfl⟩
  rw [← hV] at st1
  have hVs : V.size = 16 := by rw [hV]; simp [md_len]
  have hM := hide (mixL_by (s := s) hc hby.out)
  replace hV := hide hV
  replace hr := hide hr
  replace hc := hide hc
  go_enter Try.func14, Try.ntmps14
  go_wp2_with (first
    | (at_builtin; refine list_str (.tmp 10) (.tmp 11) rfl rfl w.heap.size c s rfl rfl (row_lit w c) hs ?_
       intro v1 w1 r1 m1 o1
       obtain ⟨A1, c1, hv1, -, -⟩ := r1.slice
       have hl1 : (c :: sb s).length = 1 + s.size := by simp [sb_len]; omega
       rw [hl1] at hv1
       have M1 := hide (((Mod.refl (fun _ => False) w).alloc (.cells #[.int .u8 c] 5)).trans m1 (fun _ _ h => h))
       have hr1 := hide (hr.out.mod M1.out (fun _ _ h => h))
       replace hl1 := hide hl1
       replace r1 := hide r1
       clear m1
       subst hv1)
    | (at_builtin; refine list_app (.tmp 13) (.tmp 14) 22 5 _ 1 1 (ic .u8) rfl rfl (ic_len _) (ic_one _) Try.underlying22 elem5 (.slice A1 (1 + s.size) c1) (c :: sb s) A len cap l rfl rfl r1.out hr1.out ?_ ?_ ?_
       (rw [hl1.out]; simp [maxLen]; omega)
       (rw [hl1.out]; omega)
       intro v2 w2 r2 g2 a2
       obtain ⟨A2, c2, hv2, -, -⟩ := r2.slice
       have hl2 : ((c :: sb s) ++ l).length = 1 + s.size + len := by rw [List.length_append, hl1.out, HL.out]
       rw [hl2] at hv2
       have hown : ∀ k, (Value.slice A1 (1 + s.size) c1).ownBlock = some k → w.heap.size ≤ k := o1
       have M2 := hide (M1.out.trans (grown_mod g2) (fun i hi hk => by have := hown i hk; omega))
       have hrd2 : Hid (Rd w2 1 (ic .u8) A2 (1 + s.size + len) (mixL c s l)) := hide (r2.rd (ic_len _) hv2)
       clear r2 g2 a2 hl2
       subst hv2)
    | (go_at_call 8; (with_reducible refine (sum_any _ _ _ (mixL c s l) _ hrd2.out (by omega) hM).mono ?_); rintro e w3 ⟨rfl, m3⟩; rw [← hV.out]
       have hw3 : (w3.alloc (.cells V 24)).heap[w3.heap.size]? = some (.cells ((md (mixL c s l)).map (Value.int .u8)).toArray 24 (0, 0)) := by rw [← hV.out]; exact heap_alloc_new w3 _
       have M3 := hide ((M2.out.trans m3 (fun _ _ h => h)).alloc (.cells V 24))
       have hrd3 := hide (rd_md hw3)
       clear m3 hw3)
    | (go_at_call 12; (with_reducible refine (hex_any _ _ _ (md (mixL c s l)) _ hrd3.out (by omega) (hide (md_by _))).mono ?_); rintro e w4 ⟨rfl, m4⟩
       have M4 := hide (M3.out.trans m4 (fun _ _ h => h))
       clear m4))
  go_ret
  exact ⟨rfl, M4.out⟩
end Go.Proofs.Ytipkdhcbajcamaa
