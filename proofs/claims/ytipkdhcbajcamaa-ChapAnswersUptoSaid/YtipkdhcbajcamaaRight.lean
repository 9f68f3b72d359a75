/-
  palletref19.Answer and chap.Right, walked. Conditions: short texts.
-/
import Derived.Test.YtipkdhcbajcamaaAns
namespace Go.Proofs.Ytipkdhcbajcamaa
open Go.RowKit
set_option maxHeartbeats 2000000 in
theorem rans_any (c : Int) (s : ByteArray) (A : Option Addr) (len cap : Nat) (l : List Int) (w : World) (hc : 0 ≤ c ∧ c ≤ 255) (hs : s.size ≤ 1048576) (hn : len ≤ 1048576) (hr : Rd w 1 (ic .u8) A len l) (hby : Hid (∀ x ∈ l, 0 ≤ x ∧ x ≤ 255)) :
    Calls Try.prog 15 #[.int .u8 c, .string s, .slice A len cap] w fun e w' => e = .returned (.string (ansS c s l)) ∧ Mod (fun _ => False) w w' := by
  have HL : Hid (l.length = len) := hr.1
  have hM := hide (mixL_by (s := s) hc hby.out)
  replace hr := hide hr
  replace hc := hide hc
  go_enter Try.func15, Try.ntmps15
  go_wp2_with (first
    | (at_builtin; refine list_str (.tmp 10) (.tmp 11) rfl rfl w.heap.size c s rfl rfl (row_lit w c) hs ?_
       intro v1 w1 r1 m1 o1
       obtain ⟨A1, c1, hv1, -, -⟩ := r1.slice
       have hl1 : (c :: sb s).length = 1 + s.size := by simp [sb_len]; omega
       rw [hl1] at hv1
       have M1 := hide (((Mod.refl (fun _ => False) w).alloc (.cells #[.int .u8 c] 5)).trans m1 (fun _ _ h => h))
       have hr1 := hide (hr.out.mod M1.out (fun _ _ h => h))
       replace hl1 := hide hl1
       replace r1 := hide r1
       clear m1
       subst hv1)
    | (at_builtin; refine list_app (.tmp 13) (.tmp 14) 22 5 _ 1 1 (ic .u8) rfl rfl (ic_len _) (ic_one _) Try.underlying22 elem5 (.slice A1 (1 + s.size) c1) (c :: sb s) A len cap l rfl rfl r1.out hr1.out ?_ ?_ ?_
       (rw [hl1.out]; simp [maxLen]; omega)
       (rw [hl1.out]; omega)
       intro v2 w2 r2 g2 a2
       obtain ⟨A2, c2, hv2, -, -⟩ := r2.slice
       have hl2 : ((c :: sb s) ++ l).length = 1 + s.size + len := by rw [List.length_append, hl1.out, HL.out]
       rw [hl2] at hv2
       have hown : ∀ k, (Value.slice A1 (1 + s.size) c1).ownBlock = some k → w.heap.size ≤ k := o1
       have M2 := hide (M1.out.trans (grown_mod g2) (fun i hi hk => by have := hown i hk; omega))
       have hrd2 : Hid (Rd w2 1 (ic .u8) A2 (1 + s.size + len) (mixL c s l)) := hide (r2.rd (ic_len _) hv2)
       clear r2 g2 a2 hl2
       subst hv2)
    | (go_at_call 9; (with_reducible refine (rsum_any _ _ _ (mixL c s l) _ hrd2.out (by omega) hM).mono ?_); rintro e w3 ⟨v3, rfl, r3, o3, m3⟩
       obtain ⟨A3, c3, hv3, -, -⟩ := r3.slice
       rw [md_len] at hv3
       have hrd3 := hide (r3.rd (ic_len _) hv3)
       have M3 := hide (M2.out.trans m3 (fun _ _ h => h))
       clear m3 r3 o3
       subst hv3)
    | (go_at_call 13; (with_reducible refine (rhex_any _ _ _ (md (mixL c s l)) _ hrd3.out (by omega) (hide (md_by _))).mono ?_); rintro e w4 ⟨rfl, n4, rfl⟩))
  go_ret
  exact ⟨rfl, M3.out.drewN _⟩

/-- Is it the answer? -/
noncomputable def rightB (c : Int) (s : ByteArray) (l : List Int) (t : ByteArray) : Bool := decide ((unL (sb t)).2 = 0) && decide (strOf (hexL (unL (sb t)).1) = ansS c s l)
theorem toList_beq (a b : ByteArray) : (a.toList == b.toList) = decide (a = b) := by
  rw [Bool.eq_iff_iff]
  simp only [beq_iff_eq, decide_eq_true_eq]
  constructor
  · intro h
    rw [ByteArray.toList_eq, ByteArray.toList_eq] at h
    cases a; cases b
    congr 1
    exact Array.toList_inj.1 h
  · rintro rfl; rfl
set_option maxHeartbeats 2000000 in
theorem right_any (c : Int) (s : ByteArray) (A : Option Addr) (len cap : Nat) (l : List Int) (t : ByteArray) (w : World) (hc : 0 ≤ c ∧ c ≤ 255) (hs : s.size ≤ 1048576) (hn : len ≤ 1048576) (ht : t.size ≤ 1048576) (hr : Rd w 1 (ic .u8) A len l) (hby : Hid (∀ x ∈ l, 0 ≤ x ∧ x ≤ 255)) :
    Calls Try.prog 16 #[.int .u8 c, .string s, .slice A len cap, .string t] w fun e w' => e = .returned (.bool (rightB c s l t)) ∧ Mod (fun _ => False) w w' := by
  have hul : (unL (sb t)).1.length ≤ 1048576 := Nat.le_trans (unL_len _) (by rw [sb_len]; exact ht)
  have huc := unL_code (sb t)
  have hub := hide (unL_by (sb t))
  have hcall := unhex_any t
  have hR : Hid (rightB c s l t = (decide ((unL (sb t)).2 = 0) && decide (strOf (hexL (unL (sb t)).1) = ansS c s l))) := hide rfl
  unfold UnPost at hcall
  generalize rightB c s l t = R at *
  generalize (unL (sb t)).1 = u at *
  generalize (unL (sb t)).2 = e0 at *
  replace hcall := hide hcall
  replace hr := hide hr
  replace hc := hide hc
  rcases huc with rfl | rfl
  · go_enter Try.func16, Try.ntmps16
    go_wp2_with (first
      | (go_at_call 10; (with_reducible refine (hcall.out _ (by omega)).mono ?_); rintro e w1 ⟨v1, rfl, r1, m1⟩
         obtain ⟨A1, c1, hv1, -, -⟩ := r1.slice
         have hrd1 := hide (r1.rd (ic_len _) hv1)
         have hr1 := hide (hr.out.mod m1 (fun _ _ h => h))
         replace m1 := hide m1
         subst hv1)
      | (go_at_call 12; (with_reducible refine (hex_any _ _ _ u _ hrd1.out (by omega) hub).mono ?_); rintro e w2 ⟨rfl, m2⟩
         have hr2 := hide (hr1.out.mod m2 (fun _ _ h => h))
         replace m2 := hide m2)
      | (go_at_call 14; (with_reducible refine (ans_any _ _ _ _ _ l _ hc.out hs hn hr2.out hby).mono ?_); rintro e w3 ⟨rfl, m3⟩
         replace m3 := hide m3))
    go_ret
    refine ⟨?_, (m1.out.trans m2.out (fun _ _ h => h)).trans m3.out (fun _ _ h => h)⟩
    rw [hR.out, ← toList_beq]
    rfl
  · go_enter Try.func16, Try.ntmps16
    go_wp2_with (first
      | (go_at_call 10; (with_reducible refine (hcall.out _ (by omega)).mono ?_); rintro e w1 ⟨v1, rfl, r1, m1⟩
         obtain ⟨A1, c1, hv1, -, -⟩ := r1.slice
         replace m1 := hide m1
         subst hv1))
    go_ret
    refine ⟨?_, m1.out⟩
    rw [hR.out]
    rfl
end Go.Proofs.Ytipkdhcbajcamaa
