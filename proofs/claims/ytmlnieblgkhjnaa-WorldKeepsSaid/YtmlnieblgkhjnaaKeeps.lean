/-
  The walk of WorldKeeps. No condition.
-/
import Derived.Test.YtmlnieblgkhjnaaTorn
import Derived.Test.YtmlnieblgkhjnaaNil
namespace Go.Proofs.Ytmlnieblgkhjnaa.worldKeeps
open Go.RowKit Go.Maps
/-- A row that is written over, element by element. -/
def Over (w wr : World) (v : Value) (n : Nat) : Prop := ∃ L, L.length = n ∧ Row wr 5 1 (ic .u8) v L ∧ Mod (fun k => v.ownBlock = some k) w wr
theorem s1 (p : List Int) : (did wd0 ⟨119, ⟨#[102]⟩, ⟨#[]⟩, 0, p⟩).seen ⟨#[102]⟩ = some p := by
  rw [seen_w NF.wd0, upd_same]
  exact congrArg some (wrt_new p)
theorem Over.start {w : World} {v : Value} {L : List Int} {n : Nat} (h : Row w 5 1 (ic .u8) v L) (hn : L.length = n) : Over w w v n := ⟨L, hn, h, Mod.refl _ _⟩
theorem Over.at_ {w wr : World} {A : Option Addr} {n c : Nat} (h : Over w wr (.slice A n c) n) (i : Nat) (hi : i < n) :
    ∃ g x, A = some ⟨g, 0, none⟩ ∧ wr.cell? ⟨g, i, none⟩ = some (.int .u8 x) ∧ wr.frozen? ⟨g, i, none⟩ = false ∧ g < wr.heap.size ∧ Over w (wr.setCell ⟨g, i, none⟩ (.int .u8 (IntKind.u8.wrap (x + 1)))) (.slice A n c) n := by
  obtain ⟨L, hn, hr, hm⟩ := h
  obtain ⟨g, c', e, hg⟩ := hr.some_ (by omega)
  injection e with e _ _
  subst e
  obtain ⟨h1, h2⟩ := hr.num i (by omega)
  obtain ⟨h3, h4⟩ := hr.store i (IntKind.u8.wrap (gi L i + 1))
  exact ⟨g, gi L i, rfl, h1, h2, hg, L.set i (IntKind.u8.wrap (gi L i + 1)), by simp [hn], h3, hm.trans h4 fun k _ hk => by subst hk; rfl⟩
set_option maxRecDepth 100000 in
set_option maxHeartbeats 8000000 in
theorem walk0 (A0 : Option Addr) (n0 c0 : Nat) (l0 : List Int) (s : ByteArray) (w : World) (r0 : Rd w 1 (ic .u8) A0 n0 l0) (_ : ∀ x ∈ l0, 0 ≤ x ∧ x ≤ 255) :
    Calls Try.prog 7 #[.slice A0 n0 c0, .string s] w fun e w' => e = .returned (.bool true) ∧ Below w.heap.size w w' := by
  by_cases h0 : 5000 < n0
  · have e0 : decide (5000 < (n0 : Int)) = true := by simp; omega
    replace r0 := hide r0
    go_enter Try.func7, Try.ntmps7
    go_wp2_with (go_at_call 8; (with_reducible refine (awake_any _).mono ?_); rintro e w1 ⟨rfl, m1⟩
                 first
                 | have m2 := hide (ma.out.trans m1 (fun _ _ h => h))
                   clear m1
                 | have ma := hide m1
                   clear m1)
    go_ret
    exact ⟨rfl, m2.out.below (Nat.le_refl _) (fun _ h => h.elim)⟩
  · have e0 : decide (5000 < (n0 : Int)) = false := by simp; omega
    have hl0 := hide r0.1
    replace r0 := hide r0
    go_enter Try.func7, Try.ntmps7
    go_wp2_with (first
      | (go_at_call 8; (with_reducible refine (awake_any _).mono ?_); rintro e w1 ⟨rfl, m1⟩
         have L1 := m1.below (B := w.heap.size) (Nat.le_refl _) (fun _ h => h.elim)
         clear m1)
      | (go_at_call 9; (with_reducible refine (new_any _ w.heap.size L1.size).mono ?_); rintro e w2 ⟨b, F, rfl, k2, m2, -⟩
         have L2 := L1.trans (m2.below (B := w.heap.size) L1.size (fun _ h => h.elim))
         have r2 := hide (r0.out.below L2)
         replace k2 := hide k2; replace L2 := hide L2; clear m2)
      | (at_builtin; refine list_app (.tmp 25) (.tmp 26) 23 5 _ 1 1 (ic .u8) rfl rfl (ic_len _) (ic_one _) Try.underlying23 elem5 (.slice none 0 0) [] A0 n0 c0 l0 rfl rfl (Row.nil _ _ _ _) r2.out ?_ ?_ ?_
         (simp [maxLen]; omega)
         (simp; omega)
         intro v6 w3 r6 g6 a6
         rw [List.nil_append] at r6
         have m3 : Mod (fun _ => False) w2 w3 := (Mod.refl _ w2).grown g6 (by simp [Value.ownBlock])
         have o6 : ∀ k, v6.ownBlock = some k → w2.heap.size ≤ k := fun k hk => (by
           rcases a6 with e | e <;> rw [e] at hk
           · simp [Value.ownBlock] at hk
           · simp at hk; omega)
         have nB : ∀ k, v6.ownBlock = some k → w.heap.size ≤ k := fun k hk => Nat.le_trans L2.out.size (o6 k hk)
         have L3 := L2.out.trans (m3.below (B := w.heap.size) L2.out.size (fun _ h => h.elim))
         obtain ⟨A6, c6, hv6, -, -⟩ := r6.slice
         rw [hl0.out] at hv6
         have k3 := k2.out.mod m3 (fun _ _ h => h)
         have nF : ∀ k, v6.ownBlock = some k → ¬ F k := fun k hk hf => by have := o6 k hk; have := (k2.out.2.1 k hf).2; omega
         subst hv6
         have hw1 := hide (write_0 w.heap.size b wd0 0 F ⟨#[102]⟩ A6 n0 c6 l0 w3 k3 (by omega) (by decide) (by decide) (r6.rd (ic_len _) rfl) (by omega) NF.wd0)
         replace k3 := hide k3; replace L3 := hide L3; replace r6 := hide r6; replace nF := hide nF; replace nB := hide nB; clear m3 g6 a6 o6)
      | (go_at_call 11; (with_reducible refine hw1.out.mono ?_); rintro e w4 ⟨F4, rfl, k4, n4⟩; clear hw1
         have L4 := L3.out.trans n4.2.1
         have r64 := r6.out.mod n4.1 nF.out
         have nF4 : ∀ k, (Value.slice A6 n0 c6).ownBlock = some k → ¬ F4 k := fun k hk hf => nF.out k hk (n4.2.2 k (r6.out.lt k hk) hf)
         have t1 := conv_row r64
         have t2 := conv_str (c := c0) (r0.out.below L4)
         replace k4 := hide k4; replace L4 := hide L4; replace r64 := hide r64; replace nF4 := hide nF4; clear n4))
    clear t1 t2
    have hP := hide (Over.start r64.out hl0.out)
    go_loopw [7] (fun u wr => ∃ k : Nat, k ≤ n0 ∧ u = .int .i64 k ∧ Hid (Over w4 wr (.slice A6 n0 c6) n0)) (fun u _ => n0 - (intOf u).toNat)
    case atStart => exact ⟨0, by omega, rfl, hP⟩
    case round =>
      obtain ⟨k, hk, rfl, hR⟩ := hrel
      clear hP
      by_cases hlt : k < n0
      · obtain ⟨g, x, rfl, q1, q2, q3, hR2⟩ := hR.out.at_ k hlt
        replace hR2 := hide hR2
        go_wp2_with fail
        go_roundw
        case rel => exact ⟨k + 1, by omega, by go_num, hR2⟩
        case measure => simp [intOf]; omega
      · obtain rfl : k = n0 := by omega
        obtain ⟨-, -, -, m5⟩ := hR.out
        have k5 := k4.out.mod m5 (fun j hj e => nF4.out j e hj)
        have L5 := L4.out.trans (m5.below (B := w.heap.size) L4.out.size nB.out)
        have hr1 := hide (read_m w.heap.size b _ _ F4 ⟨#[102]⟩ 10000 10000 rfl l0 k hl0.out wr k5 (by omega) (NF.wd0.did _) (by decide) (by decide) (s1 l0) (by omega) (by omega))
        replace k5 := hide k5; replace L5 := hide L5; clear m5 hR
        go_wp2_with (first
          | (go_at_call 12; (with_reducible refine hr1.out.mono ?_); rintro e w6 ⟨A8, c8, rfl, r8, o8, k6, n6⟩; clear hr1
             have L6 := L5.out.trans n6.2.1
             have t1 := conv_row r8
             have t2 := conv_str (c := c0) (r0.out.below L6)
             have nF6 : ∀ j, (Value.slice A8 k c8).ownBlock = some j → ¬ F4 j := fun j hj hf => by have := o8 j hj; have := (k5.out.2.1 j hf).2; omega
             have nB6 : ∀ j, (Value.slice A8 k c8).ownBlock = some j → w.heap.size ≤ j := fun j hj => Nat.le_trans L5.out.size (o8 j hj)
             replace k6 := hide k6; replace L6 := hide L6; replace r8 := hide r8; replace nF6 := hide nF6; replace nB6 := hide nB6; clear n6 o8))
        clear t1 t2
        have hP := hide (Over.start r8.out hl0.out)
        go_loopw [10] (fun u wr => ∃ i : Nat, i ≤ k ∧ u = .int .i64 i ∧ Hid (Over w6 wr (.slice A8 k c8) k)) (fun u _ => k - (intOf u).toNat)
        case atStart => exact ⟨0, by omega, rfl, hP⟩
        case round =>
          obtain ⟨i, hi, rfl, hR⟩ := hrel
          clear hP
          by_cases hlt2 : i < k
          · obtain ⟨g, x, rfl, q1, q2, q3, hR2⟩ := hR.out.at_ i hlt2
            replace hR2 := hide hR2
            go_wp2_with fail
            go_roundw
            case rel => exact ⟨i + 1, by omega, by go_num, hR2⟩
            case measure => simp [intOf]; omega
          · obtain rfl : i = k := by omega
            obtain ⟨-, -, -, m7⟩ := hR.out
            have k7 := k6.out.mod m7 (fun j hj e => nF6.out j e hj)
            have L7 := L6.out.trans (m7.below (B := w.heap.size) L6.out.size nB6.out)
            have hr2 := hide (read_m w.heap.size b _ _ F4 ⟨#[102]⟩ 10000 10000 rfl l0 i hl0.out wr k7 (by omega) (NF.tick (NF.wd0.did _)) (by decide) (by decide) (s1 l0) (by omega) (by omega))
            replace k7 := hide k7; replace L7 := hide L7; clear m7 hR
            go_wp2_with (first
              | (go_at_call 12; (with_reducible refine hr2.out.mono ?_); rintro e w8 ⟨A9, c9, rfl, r9, -, k8, n8⟩; clear hr2
                 have L8 := L7.out.trans n8.2.1
                 have t1 := conv_row r9
                 have t2 := conv_str (c := c0) (r0.out.below L8)
                 replace L8 := hide L8; clear n8 r9 k8)
              | (go_at_call 12; (with_reducible refine (nil_read _ _ (by decide) (by decide)).mono ?_); rintro e w9 ⟨rfl, rfl⟩)
              | (go_at_call 11; (with_reducible refine (nil_write _ _ _ _ _ (by decide) (by decide) (by omega)).mono ?_); rintro e w9 ⟨rfl, rfl⟩)
              | (go_at_call 14; (with_reducible refine (nil_sync _).mono ?_); rintro e w9 ⟨rfl, rfl⟩)
              | (go_at_call 16; (with_reducible refine (nil_rename _ _ _ (by decide) (by decide) (by decide) (by decide)).mono ?_); rintro e w9 ⟨rfl, rfl⟩)
              | (go_at_call 17; (with_reducible refine (nil_remove _ _ (by decide) (by decide)).mono ?_); rintro e w9 ⟨rfl, rfl⟩)
              | (go_at_call 19; (with_reducible refine (nil_names _).mono ?_); rintro e w9 ⟨An, cn, rfl, rfl⟩)
              | (go_at_call 13; (with_reducible refine (nil_size _ _).mono ?_); rintro e w9 ⟨rfl, rfl⟩)
              | (go_at_call 20; (with_reducible refine (nil_ops _).mono ?_); rintro e w9 ⟨rfl, rfl⟩)
              | (go_at_call 18; (with_reducible refine (nil_waits _).mono ?_); rintro e w9 ⟨rfl, rfl⟩)
              | (go_at_call 21; (with_reducible refine (nil_off _).mono ?_); rintro e w9 ⟨rfl, rfl⟩))
            go_ret
            exact ⟨rfl, L8.out⟩
end Go.Proofs.Ytmlnieblgkhjnaa.worldKeeps
