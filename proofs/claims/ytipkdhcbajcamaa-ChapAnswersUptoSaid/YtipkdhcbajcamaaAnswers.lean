/-
  The walk of ChapAnswers. The condition: texts and bytes of at most 1048576 each.
-/
import Derived.Test.YtipkdhcbajcamaaRight
import Derived.Test.YtipkdhcbajcamaaOpen
namespace Go.Proofs.Ytipkdhcbajcamaa.chapAnswers
open Go.ChangeShapes Go.WideShapes Go.ChangeAt Go.RowKit Go.Deep
theorem upL_by {L : List Int} (h : ∀ x ∈ L, 0 ≤ x ∧ x ≤ 255) : ∀ x ∈ upL L, 0 ≤ x ∧ x ≤ 255 := by
  intro x hx
  simp only [upL, List.mem_map] at hx
  obtain ⟨y, hy, rfl⟩ := hx
  have := h y hy
  unfold up
  split <;> omega
theorem right_of {c : Int} {s : ByteArray} {l L : List Int} (hL : ∀ x ∈ L, 0 ≤ x ∧ x ≤ 255) (h : unL L = (md (mixL c s l), 0)) : rightB c s l (strOf L) = true := by
  unfold rightB ansS
  rw [sb_strOf L hL, h]
  simp
theorem right_other (c : Int) (s : ByteArray) (l : List Int) (t : ByteArray) : rightB c s l t = (decide ((unL (sb t)).2 = 0) && ((strOf (unL (sb t)).1).toList == (strOf (md (mixL c s l))).toList)) := by
  unfold rightB ansS
  congr 1
  rw [toList_beq]
  rw [Bool.eq_iff_iff]
  simp only [decide_eq_true_eq]
  constructor
  · intro h
    have := hexL_inj (unL_by _) (md_by _) (strOf_inj (hexL_by _ (unL_by _)) (hexL_by _ (md_by _)) h)
    rw [this]
  · intro h
    rw [strOf_inj (unL_by _) (md_by _) h]
theorem up_snoc (L : List Int) (k : Nat) (h : k < L.length) : strOf (upL (L.take (k + 1))) = strOf (upL (L.take k)) ++ strOf [up (gi L k)] := by
  rw [← strOf_append, List.take_succ_eq_append_getElem h, gi_eq L k h]
  simp only [upL, List.map_append, List.map_cons, List.map_nil]
theorem up_size (L : List Int) (k : Nat) : (strOf (upL (L.take k))).size ≤ L.length := by
  rw [strOf_size, upL, List.length_map, List.length_take]
  omega

set_option maxHeartbeats 8000000 in
theorem walk0 (c : Int) (s : ByteArray) (A : Option Addr) (len cap : Nat) (l : List Int) (t : ByteArray) (w : World) (hr : Rd w 1 (ic .u8) A len l) (hb : ∀ x ∈ l, 0 ≤ x ∧ x ≤ 255) (hn : len ≤ 1048576) (hs : s.size ≤ 1048576) (ht : t.size ≤ 1048576) (hc : 0 ≤ c ∧ c ≤ 255) :
    Calls Try.prog 6 #[.int .u8 c, .string s, .slice A len cap, .string t] w fun e w' => e = .returned (.bool true) ∧ Below w.heap.size w w' := by
  have hML := md_len (mixL c s l)
  have hMb := md_by (mixL c s l)
  have hLl : (hexL (md (mixL c s l))).length = 34 := by rw [hexL_len, hML]
  have hLb := hexL_by _ hMb
  have rS : rightB c s l (ansS c s l) = true := right_of hLb (unL_hex _ hMb)
  have rU : rightB c s l (strOf (upL (hexL (md (mixL c s l))))) = true := right_of (upL_by hLb) (unL_up _ hMb)
  have rO := right_other c s l t
  have hSz : (ansS c s l).size = 34 := by unfold ansS; rw [strOf_size, hLl]
  have hUz : (strOf (upL (hexL (md (mixL c s l))))).size = 34 := by rw [strOf_size, upL, List.length_map, hLl]
  have hix : ∀ i, i < 34 → ∀ w, (Instr.index 9 (.string (ansS c s l)) (.int .i64 (i : Nat))).run Try.prog w = .ok (.int .u8 (gi (hexL (md (mixL c s l))) i)) w := fun i hi w => by
    have h := index_sb (ansS c s l) i (by rw [hSz]; exact hi) w
    unfold ansS at h ⊢
    rw [sb_strOf _ hLb] at h
    exact h
  have h1 := runhex_any t
  have h2 := runhex_any (ansS c s l)
  rw [show sb (ansS c s l) = hexL (md (mixL c s l)) from sb_strOf _ hLb] at h2
  unfold UnPost at h1 h2
  rw [unL_hex _ hMb] at h2
  dsimp only at h2
  have huc := unL_code (sb t)
  generalize (unL (sb t)).1 = u at *
  generalize (unL (sb t)).2 = e0 at *
  have hcat := up_snoc (hexL (md (mixL c s l)))
  have hcz := up_size (hexL (md (mixL c s l)))
  obtain ⟨S, hS⟩ : ∃ S, S = ansS c s l := ⟨_, rfl⟩
  rw [← hS] at rS hSz hix h2
  obtain ⟨L, hL⟩ : ∃ L, L = hexL (md (mixL c s l)) := ⟨_, rfl⟩
  rw [← hL] at hcat hcz rU hUz hix hLl hLb
  replace hS := hide hS
  replace hL := hide hL
  replace h1 := hide h1
  replace h2 := hide h2
  replace hb := hide hb
  replace hr := hide hr
  replace hc := hide hc
  replace hix := hide hix
  replace hcat := hide hcat
  replace hcz := hide hcz
  replace hLl := hide hLl
  replace hLb := hide hLb
  replace hMb := hide hMb
  replace hML := hide hML
  replace rO := hide rO
  replace huc := hide huc
  have rU' := hide rU
  clear rU
  go_enter Try.func6, Try.ntmps6
  go_wp2_with (first
    | (go_at_call 7; (with_reducible refine (awake_any _).mono ?_); rintro e w1 ⟨rfl, m1⟩
       have r1 := hide (hr.out.mod m1 (fun _ _ h => h))
       replace m1 := hide m1)
    | (go_at_call 14; (with_reducible refine (ans_any _ _ _ _ _ l _ hc.out hs hn r1.out hb).mono ?_); rintro e w2 ⟨rfl, m2⟩
       rw [← hS.out]
       have r2 := hide (r1.out.mod m2 (fun _ _ h => h))
       have M2 := hide (m1.out.trans m2 (fun _ _ h => h))
       clear m2)
    | (go_at_call 15; (with_reducible refine (rans_any _ _ _ _ _ l _ hc.out hs hn r2.out hb).mono ?_); rintro e w3 ⟨rfl, m3⟩
       rw [← hS.out]
       have r3 := hide (r2.out.mod m3 (fun _ _ h => h))
       have M3 := hide (M2.out.trans m3 (fun _ _ h => h))
       clear m3)
    | (go_at_call 16; (with_reducible refine (right_any _ _ _ _ _ l _ _ hc.out hs hn (by omega) r3.out hb).mono ?_); rintro e w4 ⟨rfl, m4⟩
       have r4 := hide (r3.out.mod m4 (fun _ _ h => h))
       have M4 := hide (M3.out.trans m4 (fun _ _ h => h))
       clear m4))
  clear m1 M2 M3 r1 r2 r3
  go_loopw [10, 11] (fun v i wr => ∃ k : Nat, k ≤ 34 ∧ i = .int .i64 k ∧ v = .string (strOf (upL (L.take k))) ∧ Hid (Mod (fun _ => False) w wr)) (fun _ i _ => 34 - (intOf i).toNat)
  case atStart => exact ⟨0, by omega, rfl, by rw [List.take_zero]; rfl, M4⟩
  case round =>
    clear M4
    obtain ⟨k, hk, rfl, rfl, hM⟩ := hrel
    by_cases hlt : k < 34
    · have ix := hix.out k hlt
      obtain ⟨b1, b2⟩ := hLb.out _ (gi_mem (i := k) (l := L) (by rw [hLl.out]; exact hlt))
      have hct := hide (hcat.out k (by rw [hLl.out]; exact hlt))
      have hcs := hcz.out k
      rw [hLl.out] at hcs
      generalize strOf (upL (L.take k)) = T at *
      generalize gi L k = x at *
      have z1 : (strOf [up x]).size = 1 := strOf_size _
      have cs : (convert 22 9 (.slice (some ⟨wr.heap.size, 0, none⟩) 1 1)).run Try.prog (wr.alloc (.cells #[.int .u8 (up x)] 5)) = .ok (.string (strOf [up x])) (wr.alloc (.cells #[.int .u8 (up x)] 5)) := conv_str (c := 1) (Rd.box wr (ic .u8) (up x) 5)
      by_cases hu : 97 ≤ x ∧ x ≤ 102
      · obtain ⟨u1, u2⟩ := hu
        have hup : up x = x - 32 := by unfold up; rw [if_pos ⟨u1, u2⟩]
        have hq : (x - 32) % 256 = x - 32 := by omega
        generalize strOf [up x] = X at *
        rw [hup] at cs
        replace hup := hide hup
        go_wp2
        go_roundw
        case rel => exact ⟨k + 1, by omega, by go_num, by rw [hct.out], hide (hM.out.alloc _)⟩
        case measure => simp [intOf]; omega
      · have hup : up x = x := by unfold up; rw [if_neg hu]
        have hd : x < 97 ∨ (97 ≤ x ∧ 102 < x) := by omega
        generalize strOf [up x] = X at *
        rw [hup] at cs
        replace hup := hide hup
        clear hu
        rcases hd with hd | ⟨hd1, hd2⟩
        all_goals
          go_wp2
          go_roundw
          case rel => exact ⟨k + 1, by omega, by go_num, by rw [hct.out], hide (hM.out.alloc _)⟩
          case measure => simp [intOf]; omega
    · have hk34 : k = 34 := by omega
      have hT : Hid (strOf (upL (L.take k)) = strOf (upL L)) := hide (by rw [List.take_of_length_le (by rw [hLl.out]; omega)])
      replace hk34 := hide hk34
      have rr := hide (hr.out.mod hM.out (fun _ _ h => h))
      generalize hTT : strOf (upL (L.take k)) = T at *
      replace hTT := hide hTT
      have rT : rightB c s l T = true := by rw [hT.out]; exact rU'.out
      have hTz : T.size = 34 := by rw [hT.out]; exact hUz
      obtain ⟨P, hPd⟩ : ∃ P, P = md (mixL c s l) := ⟨_, rfl⟩
      have h3 := h2.out
      have rO1 := rO.out
      have hMLl := hML.out
      rw [← hPd] at h3 rO1 hMLl
      replace hPd := hide hPd
      replace h3 := hide h3
      replace hMLl := hide hMLl
      clear h2 rO
      have tok1 : True := trivial
      have tok2 : True := trivial
      rcases huc.out with rfl | rfl
      · obtain ⟨B, hB⟩ : ∃ B, ((strOf u).toList == (strOf P).toList) = B := ⟨_, rfl⟩
        rw [hB] at rO1
        have rO2 : rightB c s l t = B := by rw [rO1]; simp
        clear rO1
        go_wp2_with (first
          | (go_at_call 11; have _t := tok1; (with_reducible refine (h1.out _ (by omega)).mono ?_); rintro e w5 ⟨v5, rfl, q5, m5⟩; clear tok1
             have r5 := hide (rr.out.mod m5 (fun _ _ h => h))
             have M5 := hide (hM.out.trans m5 (fun _ _ h => h))
             obtain ⟨A5, c5, hv5, -, -⟩ := q5.slice
             replace q5 := hide (q5.rd (ic_len _) hv5)
             clear m5
             subst hv5)
          | (go_at_call 11; (with_reducible refine (h3.out _ (by omega)).mono ?_); rintro e w6 ⟨v6, rfl, q6, m6⟩
             have r6 := hide (r5.out.mod m6 (fun _ _ h => h))
             have M6 := hide (M5.out.trans m6 (fun _ _ h => h))
             have q56 := hide (q5.out.mod m6 (fun _ _ h => h))
             obtain ⟨A6, c6, hv6, -, -⟩ := q6.slice
             replace q6 := hide (q6.rd (ic_len _) hv6)
             clear m6
             subst hv6)
          | (go_at_call 16; have _t := tok2; (with_reducible refine (right_any _ _ _ _ _ l _ _ hc.out hs hn (by omega) r6.out hb).mono ?_); rintro e w7 ⟨rfl, m7⟩; clear tok2
             have r7 := hide (r6.out.mod m7 (fun _ _ h => h))
             have M7 := hide (M6.out.trans m7 (fun _ _ h => h))
             have x5 := conv_str (c := c5) (q56.out.mod m7 (fun _ _ h => h))
             have x6 := conv_str (c := c6) (q6.out.mod m7 (fun _ _ h => h))
             clear m7)
          | (go_at_call 16; (with_reducible refine (right_any _ _ _ _ _ l _ _ hc.out hs hn (by omega) r7.out hb).mono ?_); rintro e w8 ⟨rfl, m8⟩
             have M8 := hide (M7.out.trans m8 (fun _ _ h => h))
             clear m8))
        go_ret
        exact ⟨rfl, M8.out.below (Nat.le_refl _) (fun _ h => h.elim)⟩
      · have rO2 : rightB c s l t = false := by rw [rO1]; simp
        clear rO1
        go_wp2_with (first
          | (go_at_call 11; have _t := tok1; (with_reducible refine (h1.out _ (by omega)).mono ?_); rintro e w5 ⟨v5, rfl, q5, m5⟩; clear tok1
             have r5 := hide (rr.out.mod m5 (fun _ _ h => h))
             have M5 := hide (hM.out.trans m5 (fun _ _ h => h))
             obtain ⟨A5, c5, hv5, -, -⟩ := q5.slice
             clear m5
             subst hv5)
          | (go_at_call 11; (with_reducible refine (h3.out _ (by omega)).mono ?_); rintro e w6 ⟨v6, rfl, q6, m6⟩
             have r6 := hide (r5.out.mod m6 (fun _ _ h => h))
             have M6 := hide (M5.out.trans m6 (fun _ _ h => h))
             obtain ⟨A6, c6, hv6, -, -⟩ := q6.slice
             clear m6
             subst hv6)
          | (go_at_call 16; have _t := tok2; (with_reducible refine (right_any _ _ _ _ _ l _ _ hc.out hs hn (by omega) r6.out hb).mono ?_); rintro e w7 ⟨rfl, m7⟩; clear tok2
             have r7 := hide (r6.out.mod m7 (fun _ _ h => h))
             have M7 := hide (M6.out.trans m7 (fun _ _ h => h))
             clear m7)
          | (go_at_call 16; (with_reducible refine (right_any _ _ _ _ _ l _ _ hc.out hs hn (by omega) r7.out hb).mono ?_); rintro e w8 ⟨rfl, m8⟩
             have M8 := hide (M7.out.trans m8 (fun _ _ h => h))
             clear m8))
        go_ret
        exact ⟨rfl, M8.out.below (Nat.le_refl _) (fun _ h => h.elim)⟩
end Go.Proofs.Ytipkdhcbajcamaa.chapAnswers
