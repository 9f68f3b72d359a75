/-
  chap.Unhex, walked. Conditions: a text of fewer than 2^46 bytes.
-/
import Derived.Test.YtipkdhcbajcamaaDigit
import Derived.Test.YtipkdhcbajcamaaRSum
import Derived.IntWalk
namespace Go.Proofs.Ytipkdhcbajcamaa
open Go.RowKit
theorem ext02 (s : ByteArray) (h : 2 ≤ s.size) : ∃ a b : UInt8, (s.extract 0 2).toList = [a, b] ∧ gi (sb s) 0 = (a.toNat : Int) ∧ gi (sb s) 1 = (b.toNat : Int) := by
  refine ⟨s[0], s[1], ?_, sb_get s 0 (by omega), sb_get s 1 (by omega)⟩
  rw [ByteArray.toList_eq]
  apply List.ext_getElem
  · simp; omega
  · intro i h1 h2
    have hi : i < 2 := by simpa using h2
    obtain rfl | rfl : i = 0 ∨ i = 1 := by omega
    all_goals simp [ByteArray.getElem_eq_getElem_data]
theorem head_eq (s : ByteArray) (h : 2 ≤ s.size) : ((s.extract 0 2).toList == [48, 120]) = decide (gi (sb s) 0 = 48 ∧ gi (sb s) 1 = 120) ∧ ((s.extract 0 2).toList == [48, 88]) = decide (gi (sb s) 0 = 48 ∧ gi (sb s) 1 = 88) := by
  obtain ⟨a, b, h1, h2, h3⟩ := ext02 s h
  rw [h1, h2, h3]
  have e : ∀ (x : UInt8) (n : Nat), n < 256 → ((x.toNat : Int) = n ↔ x = UInt8.ofNat n) := fun x n hn => by
    constructor
    · intro h
      apply UInt8.toNat_inj.1
      simp
      omega
    · intro h
      subst h
      simp
      omega
  have e48 := e a 48 (by decide)
  have e120 := e b 120 (by decide)
  have e88 := e b 88 (by decide)
  constructor
  · rw [Bool.eq_iff_iff]
    simp only [beq_iff_eq, List.cons.injEq, and_true, decide_eq_true_eq]
    exact and_congr e48.symm e120.symm
  · rw [Bool.eq_iff_iff]
    simp only [beq_iff_eq, List.cons.injEq, and_true, decide_eq_true_eq]
    exact and_congr e48.symm e88.symm
theorem index_sb (s : ByteArray) (i : Nat) (h : i < s.size) (w : World) : (Instr.index 9 (.string s) (.int .i64 i)).run Try.prog w = .ok (.int .u8 (gi (sb s) i)) w := by
  rw [run_index_string (w := w) 9 s .i64 i Try.underlying9, dif_pos ⟨by omega, by omega⟩, sb_get s i h]
  rfl
theorem or_pair (a b : Int) (h0 : 0 ≤ a) (h1 : a ≤ 15) (h2 : 0 ≤ b) (h3 : b ≤ 15) : bits .or .i64 (a * 16) b = 16 * a + b := by
  have k : ∀ x y : Fin 16, bits .or .i64 ((x.val : Int) * 16) (y.val : Int) = 16 * (x.val : Int) + (y.val : Int) := by decide +kernel
  obtain ⟨n, rfl⟩ := Int.eq_ofNat_of_zero_le h0
  obtain ⟨m, rfl⟩ := Int.eq_ofNat_of_zero_le h2
  exact k ⟨n, by omega⟩ ⟨m, by omega⟩
/-- The answer to a text. -/
def UnPost (L : List Int) (w : World) (e : Ending) (w' : World) : Prop := ∃ v, e = .returned (.tuple #[v, .int .i64 (unL L).2]) ∧ Row w' 5 1 (ic .u8) v (unL L).1 ∧ Mod (fun _ => False) w w'
theorem UnPost.bad {L : List Int} (h : ¬ (okH L ∧ okP L ((L.length - 2) / 2))) {w w' : World} (hm : Mod (fun _ => False) w w') : UnPost L w (.returned (.tuple #[.slice none 0 0, .int .i64 13])) w' := by
  refine ⟨.slice none 0 0, ?_, ?_, hm⟩
  · rw [unL_bad h]
  · rw [unL_bad h]; exact Row.nil _ _ _ _

set_option maxHeartbeats 1000000 in
theorem unhex_odd (s : ByteArray) (w : World) (hs : s.size ≤ 140737488351232) (h : s.size % 2 = 1 ∨ s.size < 2) : Calls Try.prog 10 #[.string s] w (UnPost (sb s) w) := by
  have hbad : ¬ (okH (sb s) ∧ okP (sb s) (((sb s).length - 2) / 2)) := fun k => by
    obtain ⟨⟨k1, k2, _⟩, _⟩ := k
    rw [sb_len] at k1 k2
    omega
  have hP := hide (UnPost.bad hbad (Mod.refl (fun _ => False) w))
  clear hbad
  by_cases h1 : s.size % 2 = 1
  · have d1 : ((s.size : Int) % 2 == 0) = false := by simp; omega
    have d1' : ((s.size : Int) % 2 != 0) = true := by simp; omega
    clear h h1
    go_enter Try.func10, Try.ntmps10
    go_wp2
    go_ret2
    exact hP.out
  · have d1 : ((s.size : Int) % 2 == 0) = true := by simp; omega
    have d1' : ((s.size : Int) % 2 != 0) = false := by simp; omega
    have d2 : decide ((s.size : Int) < 2) = true := by simp; omega
    clear h h1
    go_enter Try.func10, Try.ntmps10
    go_wp2
    go_ret2
    exact hP.out

set_option maxHeartbeats 4000000 in
theorem unhex_even (s : ByteArray) (w : World) (hs : s.size ≤ 140737488351232) (h2 : 2 ≤ s.size) (h3 : s.size % 2 = 0) : Calls Try.prog 10 #[.string s] w (UnPost (sb s) w) := by
  have d1 : ((s.size : Int) % 2 == 0) = true := by simp; omega
  have d1' : ((s.size : Int) % 2 != 0) = false := by simp; omega
  have d2 : decide ((s.size : Int) < 2) = false := by simp; omega
  have d3 : (2 : Int) ≤ (s.size : Int) := by omega
  have hsl : ∀ w, (Instr.slice 9 (.string s) none (some (.int .i64 2)) none).run Try.prog w = .ok (.string (s.extract 0 2)) w := fun w => by
    rw [run_slice_string_h (w := w) 9 s Try.underlying9 .i64 2 (by omega) (by omega)]; rfl
  obtain ⟨q1, q2⟩ := head_eq s h2
  generalize s.extract 0 2 = X at *
  by_cases hok : okH (sb s)
  · have hk : (gi (sb s) 0 = 48 ∧ gi (sb s) 1 = 120) ∨ (¬ (gi (sb s) 0 = 48 ∧ gi (sb s) 1 = 120) ∧ (gi (sb s) 0 = 48 ∧ gi (sb s) 1 = 88)) := by
      obtain ⟨-, -, k3, k4⟩ := hok
      rcases k4 with k4 | k4
      · exact .inl ⟨k3, k4⟩
      · exact .inr ⟨by omega, k3, k4⟩
    have hsz : Hid ((sb s).length = s.size) := hide (sb_len s)
    have hby := hide (sb_by s)
    have hev : Hid (s.size = 2 + 2 * ((s.size - 2) / 2)) := hide (by omega)
    have hnn : Hid (((sb s).length - 2) / 2 = (s.size - 2) / 2) := hide (by rw [sb_len])
    have hix : Hid (∀ i, i < s.size → ∀ w, (Instr.index 9 (.string s) (.int .i64 (i : Nat))).run Try.prog w = .ok (.int .u8 (gi (sb s) i)) w) := hide (fun i hi w => index_sb s i hi w)
    generalize (s.size - 2) / 2 = n at *
    replace h3 := hide h3
    replace hok := hide hok
    rcases hk with hk | ⟨hk1, hk2⟩
    · rw [decide_eq_true hk] at q1
      clear hk q2
      go_enter Try.func10, Try.ntmps10
      go_wp2
      go_loopw [4, 5] (fun v i wr => ∃ (k m : Nat) (A : Option Addr) (c : Nat), k ≤ n ∧ Hid (m = 2 + 2 * k) ∧ i = .int .i64 m ∧ v = .slice A k c ∧ Hid (okP (sb s) k) ∧ Hid (Sr w wr v (ps (sb s) k))) (fun _ i _ => s.size - (intOf i).toNat)
      case atStart => exact ⟨0, 2, none, 0, by omega, hide rfl, rfl, rfl, hide (fun j hj => by omega), hide ⟨Mod.refl _ w, Row.nil _ _ _ _, by simp [Value.ownBlock]⟩⟩
      case round =>
        obtain ⟨k, m, A, c, hk, hm, rfl, rfl, hP, hS⟩ := hrel
        by_cases hlt : k < n
        · have hm1 : m + 1 < s.size := by have := hm.out; have := hev.out; omega
          have hkb : k + 1 ≤ s.size := by have := hm.out; omega
          have ix1 := hix.out m (by omega)
          have ix2 := hix.out (m + 1) hm1
          obtain ⟨b1, b2⟩ := hby.out _ (gi_mem (i := m) (l := sb s) (by rw [hsz.out]; omega))
          obtain ⟨b3, b4⟩ := hby.out _ (gi_mem (i := m + 1) (l := sb s) (by rw [hsz.out]; omega))
          have v1 := dv_bd (gi (sb s) m)
          have v2 := dv_bd (gi (sb s) (m + 1))
          obtain ⟨v11, v12⟩ := v1
          obtain ⟨v21, v22⟩ := v2
          have hsn : Hid (ps (sb s) k ++ [16 * dv (gi (sb s) m) + dv (gi (sb s) (m + 1))] = ps (sb s) (k + 1)) := hide (by rw [hm.out]; exact ps_snoc _ _)
          have hsu : Hid (0 ≤ dv (gi (sb s) m) → 0 ≤ dv (gi (sb s) (m + 1)) → okP (sb s) (k + 1)) := hide (fun h1 h2 => okP_succ hP.out (by rw [← hm.out]; exact h1) (by rw [← hm.out]; exact h2))
          have hsb : Hid (dv (gi (sb s) m) < 0 ∨ dv (gi (sb s) (m + 1)) < 0 → ¬ (okH (sb s) ∧ okP (sb s) (((sb s).length - 2) / 2))) := hide (fun h1 h2 => by
            have := h2.2 k (by rw [hnn.out]; exact hlt)
            rw [← hm.out] at this
            omega)
          have hcast : (((m + 1 : Nat)) : Int) = (m : Int) + 1 := by omega
          rw [hcast] at ix2
          clear hcast
          generalize gi (sb s) m = x at *
          generalize gi (sb s) (m + 1) = y at *
          have em : IntKind.i64.wrap ((m : Int) + 1) = (m : Int) + 1 := IntWalk.i64_in _ (by omega)
          go_wp2
          go_quiet ((go_at_call 20; exact Calls.quiet_of_same (digit_any _ _ (by omega) (by omega))))
          generalize dv x = a at *
          generalize dv y = b at *
          clear em
          have hS1 : Hid (Sr w (wr.drewN nq) (.slice A k c) (ps (sb s) k)) := hide ⟨hS.out.1.drewN _, hS.out.2.1, hS.out.2.2⟩
          generalize wr.drewN nq = w1 at *
          by_cases ha : a < 0
          · have hB := hide (UnPost.bad (hsb.out (.inl ha)) hS1.out.1)
            go_wp2
            go_ret2
            exact hB.out
          · by_cases hb : b < 0
            · have hB := hide (UnPost.bad (hsb.out (.inr hb)) hS1.out.1)
              go_wp2
              go_ret2
              exact hB.out
            · have hP2 := hide (hsu.out (by omega) (by omega))
              have hor := or_pair a b (by omega) v12 (by omega) v22
              have hq : (16 * a + b) % 256 = 16 * a + b := by omega
              go_wp2_with (first
                | (at_builtin; refine list_app (.tmp 48) (.tmp 54) 22 5 _ 1 1 (ic .u8) rfl rfl (ic_len _) (ic_one _) Try.underlying22 elem5 (.slice A k c) (ps (sb s) k) (some ⟨w1.heap.size, 0, none⟩) 1 1 [16 * a + b] rfl rfl (hS1.out.2.1.alloc _) (Rd.box w1 (ic .u8) _ 5) ?_ ?_ ?_
                   (rw [ps_len]; simp [maxLen]; omega)
                   (rw [ps_len]; omega)
                   intro v4 w4 r4 g4 a4
                   obtain ⟨A4, c4, hv4, -, -⟩ := r4.slice
                   rw [hsn.out] at r4 hv4
                   rw [ps_len] at hv4
                   have hS4 : Hid (Sr w w4 v4 (ps (sb s) (k + 1))) := hide (hS1.out.app r4 g4 a4)
                   subst hv4))
              go_roundw
              case rel => exact ⟨k + 1, m + 2, A4, c4, by omega, hide (by have := hm.out; omega), by go_num, rfl, hP2, hS4⟩
              case measure => simp [intOf]; omega
        · have hkn : k = n := by omega
          have hmz : ¬ (m < s.size) := by have := hm.out; have := hev.out; omega
          have hmz2 : decide (m < s.size) = false := by simp; omega
          have hU : Hid (unL (sb s) = (ps (sb s) k, 0)) := hide (by
            have h := unL_good (L := sb s) hok.out (by rw [hnn.out, ← hkn]; exact hP.out)
            rw [h, hnn.out, ← hkn])
          replace hkn := hide hkn
          go_wp2
          go_ret2
          unfold UnPost
          rw [hU.out]
          exact ⟨_, rfl, hS.out.2.1, hS.out.1⟩
    · rw [decide_eq_false hk1] at q1
      rw [decide_eq_true hk2] at q2
      clear hk1 hk2
      go_enter Try.func10, Try.ntmps10
      go_wp2
      go_loopw [4, 5] (fun v i wr => ∃ (k m : Nat) (A : Option Addr) (c : Nat), k ≤ n ∧ Hid (m = 2 + 2 * k) ∧ i = .int .i64 m ∧ v = .slice A k c ∧ Hid (okP (sb s) k) ∧ Hid (Sr w wr v (ps (sb s) k))) (fun _ i _ => s.size - (intOf i).toNat)
      case atStart => exact ⟨0, 2, none, 0, by omega, hide rfl, rfl, rfl, hide (fun j hj => by omega), hide ⟨Mod.refl _ w, Row.nil _ _ _ _, by simp [Value.ownBlock]⟩⟩
      case round =>
        obtain ⟨k, m, A, c, hk, hm, rfl, rfl, hP, hS⟩ := hrel
        by_cases hlt : k < n
        · have hm1 : m + 1 < s.size := by have := hm.out; have := hev.out; omega
          have hkb : k + 1 ≤ s.size := by have := hm.out; omega
          have ix1 := hix.out m (by omega)
          have ix2 := hix.out (m + 1) hm1
          obtain ⟨b1, b2⟩ := hby.out _ (gi_mem (i := m) (l := sb s) (by rw [hsz.out]; omega))
          obtain ⟨b3, b4⟩ := hby.out _ (gi_mem (i := m + 1) (l := sb s) (by rw [hsz.out]; omega))
          have v1 := dv_bd (gi (sb s) m)
          have v2 := dv_bd (gi (sb s) (m + 1))
          obtain ⟨v11, v12⟩ := v1
          obtain ⟨v21, v22⟩ := v2
          have hsn : Hid (ps (sb s) k ++ [16 * dv (gi (sb s) m) + dv (gi (sb s) (m + 1))] = ps (sb s) (k + 1)) := hide (by rw [hm.out]; exact ps_snoc _ _)
          have hsu : Hid (0 ≤ dv (gi (sb s) m) → 0 ≤ dv (gi (sb s) (m + 1)) → okP (sb s) (k + 1)) := hide (fun h1 h2 => okP_succ hP.out (by rw [← hm.out]; exact h1) (by rw [← hm.out]; exact h2))
          have hsb : Hid (dv (gi (sb s) m) < 0 ∨ dv (gi (sb s) (m + 1)) < 0 → ¬ (okH (sb s) ∧ okP (sb s) (((sb s).length - 2) / 2))) := hide (fun h1 h2 => by
            have := h2.2 k (by rw [hnn.out]; exact hlt)
            rw [← hm.out] at this
            omega)
          have hcast : (((m + 1 : Nat)) : Int) = (m : Int) + 1 := by omega
          rw [hcast] at ix2
          clear hcast
          generalize gi (sb s) m = x at *
          generalize gi (sb s) (m + 1) = y at *
          have em : IntKind.i64.wrap ((m : Int) + 1) = (m : Int) + 1 := IntWalk.i64_in _ (by omega)
          go_wp2
          go_quiet ((go_at_call 20; exact Calls.quiet_of_same (digit_any _ _ (by omega) (by omega))))
          generalize dv x = a at *
          generalize dv y = b at *
          clear em
          have hS1 : Hid (Sr w (wr.drewN nq) (.slice A k c) (ps (sb s) k)) := hide ⟨hS.out.1.drewN _, hS.out.2.1, hS.out.2.2⟩
          generalize wr.drewN nq = w1 at *
          by_cases ha : a < 0
          · have hB := hide (UnPost.bad (hsb.out (.inl ha)) hS1.out.1)
            go_wp2
            go_ret2
            exact hB.out
          · by_cases hb : b < 0
            · have hB := hide (UnPost.bad (hsb.out (.inr hb)) hS1.out.1)
              go_wp2
              go_ret2
              exact hB.out
            · have hP2 := hide (hsu.out (by omega) (by omega))
              have hor := or_pair a b (by omega) v12 (by omega) v22
              have hq : (16 * a + b) % 256 = 16 * a + b := by omega
              go_wp2_with (first
                | (at_builtin; refine list_app (.tmp 48) (.tmp 54) 22 5 _ 1 1 (ic .u8) rfl rfl (ic_len _) (ic_one _) Try.underlying22 elem5 (.slice A k c) (ps (sb s) k) (some ⟨w1.heap.size, 0, none⟩) 1 1 [16 * a + b] rfl rfl (hS1.out.2.1.alloc _) (Rd.box w1 (ic .u8) _ 5) ?_ ?_ ?_
                   (rw [ps_len]; simp [maxLen]; omega)
                   (rw [ps_len]; omega)
                   intro v4 w4 r4 g4 a4
                   obtain ⟨A4, c4, hv4, -, -⟩ := r4.slice
                   rw [hsn.out] at r4 hv4
                   rw [ps_len] at hv4
                   have hS4 : Hid (Sr w w4 v4 (ps (sb s) (k + 1))) := hide (hS1.out.app r4 g4 a4)
                   subst hv4))
              go_roundw
              case rel => exact ⟨k + 1, m + 2, A4, c4, by omega, hide (by have := hm.out; omega), by go_num, rfl, hP2, hS4⟩
              case measure => simp [intOf]; omega
        · have hkn : k = n := by omega
          have hmz : ¬ (m < s.size) := by have := hm.out; have := hev.out; omega
          have hmz2 : decide (m < s.size) = false := by simp; omega
          have hU : Hid (unL (sb s) = (ps (sb s) k, 0)) := hide (by
            have h := unL_good (L := sb s) hok.out (by rw [hnn.out, ← hkn]; exact hP.out)
            rw [h, hnn.out, ← hkn])
          replace hkn := hide hkn
          go_wp2
          go_ret2
          unfold UnPost
          rw [hU.out]
          exact ⟨_, rfl, hS.out.2.1, hS.out.1⟩
  · have hP := hide (UnPost.bad (fun k => hok k.1) (Mod.refl (fun _ => False) w))
    have n1 : ¬ (gi (sb s) 0 = 48 ∧ gi (sb s) 1 = 120) := fun k => hok ⟨by rw [sb_len]; exact h3, by rw [sb_len]; exact h2, k.1, .inl k.2⟩
    have n2 : ¬ (gi (sb s) 0 = 48 ∧ gi (sb s) 1 = 88) := fun k => hok ⟨by rw [sb_len]; exact h3, by rw [sb_len]; exact h2, k.1, .inr k.2⟩
    rw [decide_eq_false n1] at q1
    rw [decide_eq_false n2] at q2
    clear hok n1 n2
    replace h3 := hide h3
    go_enter Try.func10, Try.ntmps10
    go_wp2
    go_ret2
    exact hP.out
end Go.Proofs.Ytipkdhcbajcamaa
