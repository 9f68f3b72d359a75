/-
  palletref19.Unhex, walked. Conditions: a text within the form's reach.
-/
import Derived.Test.YtipkdhcbajcamaaUnhex
namespace Go.Proofs.Ytipkdhcbajcamaa
open Go.RowKit
theorem value_w (c : Int) (w : World) (h0 : 0 ≤ c) (h1 : c ≤ 255) : Calls Try.prog 21 #[.int .u8 c] w fun e w' => e = .returned (.int .i64 (dv c)) ∧ w = w' := (value_any c w h0 h1).mono fun _ _ h => ⟨h.1, h.2.symm⟩

set_option maxHeartbeats 4000000 in
theorem runhex_bad (s : ByteArray) (w : World) (hs : s.size ≤ 140737488351232) (h : ¬ okH (sb s)) : Calls Try.prog 11 #[.string s] w (UnPost (sb s) w) := by
  have hP := hide (UnPost.bad (fun k => h k.1) (Mod.refl (fun _ => False) w))
  by_cases h1 : s.size < 2
  · have d2 : decide ((s.size : Int) < 2) = true := by simp; omega
    clear h h1
    go_enter Try.func11, Try.ntmps11
    go_wp2
    go_ret2
    exact hP.out
  · have d2 : decide ((s.size : Int) < 2) = false := by simp; omega
    have i0 : ∀ w, (Instr.index 9 (.string s) (.int .i64 0)).run Try.prog w = .ok (.int .u8 (gi (sb s) 0)) w := index_sb s 0 (by omega)
    have i1 : ∀ w, (Instr.index 9 (.string s) (.int .i64 1)).run Try.prog w = .ok (.int .u8 (gi (sb s) 1)) w := index_sb s 1 (by omega)
    have hlen := sb_len s
    by_cases h3 : gi (sb s) 0 = 48
    · by_cases h4 : gi (sb s) 1 = 120 ∨ gi (sb s) 1 = 88
      · have h5 : s.size % 2 = 1 := by
          have : ¬ (s.size % 2 = 0) := fun k => h ⟨by rw [hlen]; exact k, by rw [hlen]; omega, h3, h4⟩
          omega
        have d5 : ((s.size : Int) % 2 == 1) = true := by simp; omega
        rw [h3] at i0
        clear h hlen
        rcases h4 with h4 | h4
        all_goals
          rw [h4] at i1
          clear h1 h3 h4 h5
          go_enter Try.func11, Try.ntmps11
          go_wp2
          go_ret2
          exact hP.out
      · have d4 : (gi (sb s) 1 == 120) = false := by simp; omega
        have d5 : (gi (sb s) 1 == 88) = false := by simp; omega
        have d6 : (gi (sb s) 1 != 120) = true := by simp; omega
        have d7 : (gi (sb s) 1 != 88) = true := by simp; omega
        rw [h3] at i0
        clear h1 h3 h4 h hlen
        generalize gi (sb s) 1 = y at *
        go_enter Try.func11, Try.ntmps11
        go_wp2
        go_ret2
        exact hP.out
    · have d3 : (gi (sb s) 0 == 48) = false := by simp; omega
      have d4 : (gi (sb s) 0 != 48) = true := by simp; omega
      clear h1 h3 h hlen i1
      generalize gi (sb s) 0 = y at *
      go_enter Try.func11, Try.ntmps11
      go_wp2
      go_ret2
      exact hP.out

set_option maxHeartbeats 4000000 in
theorem runhex_ok (s : ByteArray) (w : World) (hs : s.size ≤ 140737488351232) (hok : okH (sb s)) : Calls Try.prog 11 #[.string s] w (UnPost (sb s) w) := by
  have hlen := sb_len s
  obtain ⟨k1, k2, k3, k4⟩ := id hok
  rw [hlen] at k1 k2
  have d2 : decide ((s.size : Int) < 2) = false := by simp; omega
  have i0 : ∀ w, (Instr.index 9 (.string s) (.int .i64 0)).run Try.prog w = .ok (.int .u8 (gi (sb s) 0)) w := index_sb s 0 (by omega)
  have i1 : ∀ w, (Instr.index 9 (.string s) (.int .i64 1)).run Try.prog w = .ok (.int .u8 (gi (sb s) 1)) w := index_sb s 1 (by omega)
  have d5 : ((s.size : Int) % 2 == 1) = false := by simp; omega
  rw [k3] at i0
  have hsz : Hid ((sb s).length = s.size) := hide hlen
  have hby := hide (sb_by s)
  have hev : Hid (s.size = 2 + 2 * ((s.size - 2) / 2)) := hide (by omega)
  have hnn : Hid (((sb s).length - 2) / 2 = (s.size - 2) / 2) := hide (by rw [hlen])
  have hix : Hid (∀ i, i < s.size → ∀ w, (Instr.index 9 (.string s) (.int .i64 (i : Nat))).run Try.prog w = .ok (.int .u8 (gi (sb s) i)) w) := hide (fun i hi w => index_sb s i hi w)
  generalize (s.size - 2) / 2 = n at *
  clear hlen k3
  replace k1 := hide k1
  replace hok := hide hok
  rcases k4 with k4 | k4
  all_goals
    rw [k4] at i1
    clear k4
    go_enter Try.func11, Try.ntmps11
    go_wp2
    go_loopw [4, 5] (fun v i wr => ∃ (k m : Nat) (A : Option Addr) (c : Nat), k ≤ n ∧ Hid (m = 2 + 2 * k) ∧ i = .int .i64 m ∧ v = .slice A k c ∧ Hid (okP (sb s) k) ∧ Hid (Sr w wr v (ps (sb s) k))) (fun _ i _ => s.size - (intOf i).toNat)
    case atStart => exact ⟨0, 2, none, 0, by omega, hide rfl, rfl, rfl, hide (fun j hj => by omega), hide ⟨Mod.refl _ w, Row.nil _ _ _ _, by simp [Value.ownBlock]⟩⟩
    case round =>
      obtain ⟨k, m, A, c, hk, hm, rfl, rfl, hP, hS⟩ := hrel
      by_cases hlt : k < n
      · have hm1 : m + 1 < s.size := by have := hm.out; have := hev.out; omega
        have hkb : k + 1 ≤ s.size := by have := hm.out; omega
        have ix1 := hix.out m (by omega)
        have ix2 := hix.out (m + 1) hm1
        obtain ⟨b1, b2⟩ := hby.out _ (gi_mem (i := m) (l := sb s) (by rw [hsz.out]; omega))
        obtain ⟨b3, b4⟩ := hby.out _ (gi_mem (i := m + 1) (l := sb s) (by rw [hsz.out]; omega))
        have v1 := dv_bd (gi (sb s) m)
        have v2 := dv_bd (gi (sb s) (m + 1))
        obtain ⟨v11, v12⟩ := v1
        obtain ⟨v21, v22⟩ := v2
        have hsn : Hid (ps (sb s) k ++ [16 * dv (gi (sb s) m) + dv (gi (sb s) (m + 1))] = ps (sb s) (k + 1)) := hide (by rw [hm.out]; exact ps_snoc _ _)
        have hsu : Hid (0 ≤ dv (gi (sb s) m) → 0 ≤ dv (gi (sb s) (m + 1)) → okP (sb s) (k + 1)) := hide (fun h1 h2 => okP_succ hP.out (by rw [← hm.out]; exact h1) (by rw [← hm.out]; exact h2))
        have hsb : Hid (dv (gi (sb s) m) < 0 ∨ dv (gi (sb s) (m + 1)) < 0 → ¬ (okH (sb s) ∧ okP (sb s) (((sb s).length - 2) / 2))) := hide (fun h1 h2 => by
          have := h2.2 k (by rw [hnn.out]; exact hlt)
          rw [← hm.out] at this
          omega)
        have hcast : (((m + 1 : Nat)) : Int) = (m : Int) + 1 := by omega
        rw [hcast] at ix2
        clear hcast
        generalize gi (sb s) m = x at *
        generalize gi (sb s) (m + 1) = y at *
        by_cases ha : dv x < 0
        · have hB := hide (UnPost.bad (hsb.out (.inl ha)) hS.out.1)
          go_wp2_with (go_at_call 21; (with_reducible refine (value_w _ _ (by omega) (by omega)).mono ?_); rintro e w' ⟨rfl, rfl⟩)
          go_ret2
          exact hB.out
        · by_cases hb : dv y < 0
          · have hB := hide (UnPost.bad (hsb.out (.inr hb)) hS.out.1)
            go_wp2_with (go_at_call 21; (with_reducible refine (value_w _ _ (by omega) (by omega)).mono ?_); rintro e w' ⟨rfl, rfl⟩)
            go_ret2
            exact hB.out
          · have hP2 := hide (hsu.out (by omega) (by omega))
            have hq : (16 * dv x + dv y) % 256 = 16 * dv x + dv y := by omega
            go_wp2_with (first
              | (go_at_call 21; (with_reducible refine (value_w _ _ (by omega) (by omega)).mono ?_); rintro e w' ⟨rfl, rfl⟩)
              | (at_builtin; refine list_app (.tmp 53) (.tmp 59) 22 5 _ 1 1 (ic .u8) rfl rfl (ic_len _) (ic_one _) Try.underlying22 elem5 (.slice A k c) (ps (sb s) k) (some ⟨wr.heap.size, 0, none⟩) 1 1 [16 * dv x + dv y] rfl rfl (hS.out.2.1.alloc _) (Rd.box wr (ic .u8) _ 5) ?_ ?_ ?_
                 (rw [ps_len]; simp [maxLen]; omega)
                 (rw [ps_len]; omega)
                 intro v4 w4 r4 g4 a4
                 obtain ⟨A4, c4, hv4, -, -⟩ := r4.slice
                 rw [hsn.out] at r4 hv4
                 rw [ps_len] at hv4
                 have hS4 : Hid (Sr w w4 v4 (ps (sb s) (k + 1))) := hide (hS.out.app r4 g4 a4)
                 subst hv4))
            go_roundw
            case rel => exact ⟨k + 1, m + 2, A4, c4, by omega, hide (by have := hm.out; omega), by go_num, rfl, hP2, hS4⟩
            case measure => simp [intOf]; omega
      · have hkn : k = n := by omega
        have hmz : ¬ (m < s.size) := by have := hm.out; have := hev.out; omega
        have hmz2 : decide (m < s.size) = false := by simp; omega
        have hU : Hid (unL (sb s) = (ps (sb s) k, 0)) := hide (by
          have h := unL_good (L := sb s) hok.out (by rw [hnn.out, ← hkn]; exact hP.out)
          rw [h, hnn.out, ← hkn])
        replace hkn := hide hkn
        go_wp2
        go_ret2
        unfold UnPost
        rw [hU.out]
        exact ⟨_, rfl, hS.out.2.1, hS.out.1⟩

theorem runhex_any (s : ByteArray) (w : World) (hs : s.size ≤ 140737488351232) : Calls Try.prog 11 #[.string s] w (UnPost (sb s) w) := by
  by_cases h : okH (sb s)
  · exact runhex_ok s w hs h
  · exact runhex_bad s w hs h
theorem unhex_any (s : ByteArray) (w : World) (hs : s.size ≤ 140737488351232) : Calls Try.prog 10 #[.string s] w (UnPost (sb s) w) := by
  by_cases h : s.size % 2 = 1 ∨ s.size < 2
  · exact unhex_odd s w hs h
  · exact unhex_even s w hs (by omega) (by omega)
end Go.Proofs.Ytipkdhcbajcamaa
