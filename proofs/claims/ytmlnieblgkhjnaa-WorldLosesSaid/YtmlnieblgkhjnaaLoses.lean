/-
  The walk of WorldLoses. No condition.
-/
import Derived.Test.YtmlnieblgkhjnaaTorn
import Derived.Test.YtmlnieblgkhjnaaNames
namespace Go.Proofs.Ytmlnieblgkhjnaa.worldLoses
open Go.RowKit Go.Maps
open worldTorn (d2 nf1 nf2 s2 u2 w2)
/-- After the second writes. -/
def d3 (p q : List Int) : Wd := did (d2 p) ⟨119, ⟨#[102]⟩, ⟨#[]⟩, 0, q⟩
def d4 (p q : List Int) : Wd := did (d3 p q) ⟨119, ⟨#[103]⟩, ⟨#[]⟩, 0, q⟩
theorem nf3 (p q : List Int) : NF (d3 p q) := (nf2 p).did _
theorem nf4 (p q : List Int) : NF (d4 p q) := (nf3 p q).did _
theorem wts4 (p q : List Int) : (d4 p q).waits = [⟨119, ⟨#[102]⟩, ⟨#[]⟩, 0, q⟩, ⟨119, ⟨#[103]⟩, ⟨#[]⟩, 0, q⟩] := by
  unfold d4
  rw [waits_w (nf3 p q)]
  unfold d3
  rw [waits_w (nf2 p), w2]
  rfl
theorem dur4 (p q : List Int) : (d4 p q).dur = upd (fun _ => none) ⟨#[102]⟩ (some p) := by
  unfold d4
  rw [dur_w (nf3 p q)]
  unfold d3
  rw [dur_w (nf2 p), u2]
/-- Nothing is kept. -/
theorem none_f (p q : List Int) : (crashed (d4 p q) 0 0).seen = upd (fun _ => none) ⟨#[102]⟩ (some p) := by
  rw [crashed_seen, wts4, dur4]
  rfl
/-- All is kept. -/
theorem all_f (p q : List Int) : (crashed (d4 p q) 2 0).seen = upd (upd (upd (fun _ => none) ⟨#[102]⟩ (some p)) ⟨#[102]⟩ (some (q ++ p.drop q.length))) ⟨#[103]⟩ (some q) := by
  rw [crashed_seen, wts4, dur4]
  show ap (ap (upd (fun _ => none) ⟨#[102]⟩ (some p)) ⟨119, ⟨#[102]⟩, ⟨#[]⟩, 0, q⟩ q.length) ⟨119, ⟨#[103]⟩, ⟨#[]⟩, 0, q⟩ q.length = _
  simp only [ap, if_true, upd_same, List.take_length, wrt_0]
  have e : upd (upd (fun _ => none) ⟨#[102]⟩ (some p)) ⟨#[102]⟩ (some (q ++ p.drop q.length)) ⟨#[103]⟩ = none := rfl
  rw [e, wrt_new]
theorem plen (p q : List Int) : (q ++ p.drop q.length).length = max p.length q.length := by
  rw [List.length_append, List.length_drop]; omega
set_option maxHeartbeats 8000000 in
theorem walk0 (A0 : Option Addr) (n0 c0 : Nat) (l0 : List Int) (A1 : Option Addr) (n1 c1 : Nat) (l1 : List Int) (all : Bool) (w : World) (r0 : Rd w 1 (ic .u8) A0 n0 l0) (_ : ∀ x ∈ l0, 0 ≤ x ∧ x ≤ 255) (r1 : Rd w 1 (ic .u8) A1 n1 l1) (_ : ∀ x ∈ l1, 0 ≤ x ∧ x ≤ 255) (h0c : n0 ≤ c0) (h1c : n1 ≤ c1) :
    Calls Try.prog 6 #[.slice A0 n0 c0, .slice A1 n1 c1, .bool all] w fun e w' => e = .returned (.bool true) ∧ Below w.heap.size w w' := by
  by_cases h0 : 10000 < n0
  · have e0 : decide (10000 < (n0 : Int)) = true := by simp; omega
    replace r0 := hide r0
    replace r1 := hide r1
    go_enter Try.func6, Try.ntmps6
    go_wp2_with (go_at_call 8; (with_reducible refine (awake_any _).mono ?_); rintro e w1 ⟨rfl, m1⟩
                 first
                 | have m2 := hide (ma.out.trans m1 (fun _ _ h => h))
                   clear m1
                 | have ma := hide m1
                   clear m1)
    go_ret
    exact ⟨rfl, m2.out.below (Nat.le_refl _) (fun _ h => h.elim)⟩
  · have e0 : decide (10000 < (n0 : Int)) = false := by simp; omega
    by_cases h1 : 10000 < n1
    · have e1 : decide (10000 < (n1 : Int)) = true := by simp; omega
      replace r0 := hide r0
      replace r1 := hide r1
      go_enter Try.func6, Try.ntmps6
      go_wp2_with (go_at_call 8; (with_reducible refine (awake_any _).mono ?_); rintro e w1 ⟨rfl, m1⟩
                   first
                   | have m2 := hide (ma.out.trans m1 (fun _ _ h => h))
                     clear m1
                   | have ma := hide m1
                     clear m1)
      go_ret
      exact ⟨rfl, m2.out.below (Nat.le_refl _) (fun _ h => h.elim)⟩
    · have e1 : decide (10000 < (n1 : Int)) = false := by simp; omega
      have hl0 := hide r0.1
      have hl1 := hide r1.1
      replace r0 := hide r0
      replace r1 := hide r1
      cases all with
      | false =>
        go_enter Try.func6, Try.ntmps6
        go_wp2_with (first
          | (go_at_call 8; (with_reducible refine (awake_any _).mono ?_); rintro e w1 ⟨rfl, m1⟩
             have L1 := m1.below (B := w.heap.size) (Nat.le_refl _) (fun _ h => h.elim)
             clear m1)
          | (go_at_call 9; (with_reducible refine (new_any _ w.heap.size L1.size).mono ?_); rintro e w2 ⟨b, F, rfl, k2, m2, -⟩
             have L2 := L1.trans (m2.below (B := w.heap.size) L1.size (fun _ h => h.elim))
             have hw1 := hide (write_0 w.heap.size b wd0 0 F ⟨#[102]⟩ A0 n0 c0 l0 w2 k2 (by omega) (by decide) (by decide) (r0.out.below L2) (by omega) NF.wd0)
             replace k2 := hide k2; replace L2 := hide L2; clear m2)
          | (go_at_call 11; (with_reducible refine hw1.out.mono ?_); rintro e w3 ⟨F3, rfl, k3, n3⟩; clear hw1
             have L3 := L2.out.trans n3.2.1
             have hw2 := hide (sync_some w.heap.size b _ _ F3 w3 k3 (by omega) (nf1 l0 _))
             replace k3 := hide k3; replace L3 := hide L3; clear n3)
          | (go_at_call 14; (with_reducible refine hw2.out.mono ?_); rintro e w4 ⟨F4, rfl, k4, n4⟩; clear hw2
             have L4 := L3.out.trans n4.2.1
             have hw3 := hide (write_0 w.heap.size b (d2 l0) _ F4 ⟨#[102]⟩ A1 n1 c1 l1 w4 (WS.le k4 (m := 3) (Nat.le_refl _)) (by omega) (by decide) (by decide) (r1.out.below L4) (by omega) (nf2 l0))
             replace k4 := hide k4; replace L4 := hide L4; clear n4)
          | (go_at_call 11; (with_reducible refine hw3.out.mono ?_); rintro e w5 ⟨F5, rfl, k5, n5⟩; clear hw3
             have L5 := L4.out.trans n5.2.1
             have hw4 := hide (write_0 w.heap.size b (d3 l0 l1) _ F5 ⟨#[103]⟩ A1 n1 c1 l1 w5 k5 (by omega) (by decide) (by decide) (r1.out.below L5) (by omega) (nf3 l0 l1))
             replace k5 := hide k5; replace L5 := hide L5; clear n5)
          | (go_at_call 11; (with_reducible refine hw4.out.mono ?_); rintro e w6 ⟨F6, rfl, k6, n6⟩; clear hw4
             have L6 := L5.out.trans n6.2.1
             have hw5 : Hid (Calls Try.prog 18 #[.pointer (some ⟨b, 0, none⟩)] w6 fun e w' => e = .returned (.int .i64 2) ∧ w6 = w') := hide (waits_some w.heap.size b (d4 l0 l1) _ F6 w6 k6)
             have hw6 : Hid (Calls Try.prog 15 #[.pointer (some ⟨b, 0, none⟩), .int .i64 0, .int .i64 0] w6 _) := hide (crash_some w.heap.size b (d4 l0 l1) _ 0 0 F6 w6 k6 (by omega) (by omega))
             replace k6 := hide k6; replace L6 := hide L6; clear n6)
          | (go_at_call 18; (with_reducible refine hw5.out.mono ?_); rintro e w7 ⟨rfl, rfl⟩; clear hw5)
          | (go_at_call 15; (with_reducible refine hw6.out.mono ?_); rintro e w8 ⟨F8, rfl, k8, n8⟩; clear hw6
             have L8 := L6.out.trans n8.2.1
             have hw7 := hide (read_m w.heap.size b (crashed (d4 l0 l1) 0 0) 7 F8 ⟨#[102]⟩ 20000 20000 rfl l0 n0 hl0.out w8 (WS.le k8 (m := 7) (Nat.le_refl _)) (by omega) (NF.crashed _ _ _) (by decide) (by decide) (by rw [none_f]; rfl) (by omega) (by omega))
             replace k8 := hide k8; replace L8 := hide L8; clear n8)
          | (go_at_call 12; (with_reducible refine hw7.out.mono ?_); rintro e w9 ⟨A9, c9, rfl, r9, -, k9, n9⟩; clear hw7
             have L9 := L8.out.trans n9.2.1
             have t1 := conv_row r9
             have t2 := conv_str (c := c0) (r0.out.below L9)
             have hw8 := hide (size_no w.heap.size b (tick (crashed (d4 l0 l1) 0 0)) _ F8 ⟨#[103]⟩ w9 k9 (by decide) (by rw [worldNames.tick_seen, none_f]; rfl))
             replace k9 := hide k9; replace L9 := hide L9; clear n9 r9)
          | (go_at_call 13; (with_reducible refine hw8.out.mono ?_); rintro e w10 ⟨rfl, rfl⟩; clear hw8))
        go_ret
        exact ⟨rfl, L9.out⟩
      | true =>
        have hm := plen l0 l1
        rw [hl0.out, hl1.out] at hm
        obtain ⟨m7, hm7⟩ : ∃ m7, (l1 ++ l0.drop l1.length).length = m7 := ⟨_, rfl⟩
        rw [hl1.out] at hm7
        rw [hm7] at hm
        rw [← hl1.out] at hm7
        replace hm7 := hide hm7
        rcases Nat.lt_trichotomy n0 n1 with hnk | hnk | hnk
        · obtain rfl : n1 = m7 := by omega
          replace hm := hide hm
          go_enter Try.func6, Try.ntmps6
          go_wp2_with (first
            | (go_at_call 8; (with_reducible refine (awake_any _).mono ?_); rintro e w1 ⟨rfl, m1⟩
               have L1 := m1.below (B := w.heap.size) (Nat.le_refl _) (fun _ h => h.elim)
               clear m1)
            | (go_at_call 9; (with_reducible refine (new_any _ w.heap.size L1.size).mono ?_); rintro e w2 ⟨b, F, rfl, k2, m2, -⟩
               have L2 := L1.trans (m2.below (B := w.heap.size) L1.size (fun _ h => h.elim))
               have hw1 := hide (write_0 w.heap.size b wd0 0 F ⟨#[102]⟩ A0 n0 c0 l0 w2 k2 (by omega) (by decide) (by decide) (r0.out.below L2) (by omega) NF.wd0)
               replace k2 := hide k2; replace L2 := hide L2; clear m2)
            | (go_at_call 11; (with_reducible refine hw1.out.mono ?_); rintro e w3 ⟨F3, rfl, k3, n3⟩; clear hw1
               have L3 := L2.out.trans n3.2.1
               have hw2 := hide (sync_some w.heap.size b _ _ F3 w3 k3 (by omega) (nf1 l0 _))
               replace k3 := hide k3; replace L3 := hide L3; clear n3)
            | (go_at_call 14; (with_reducible refine hw2.out.mono ?_); rintro e w4 ⟨F4, rfl, k4, n4⟩; clear hw2
               have L4 := L3.out.trans n4.2.1
               have hw3 := hide (write_0 w.heap.size b (d2 l0) _ F4 ⟨#[102]⟩ A1 n1 c1 l1 w4 (WS.le k4 (m := 3) (Nat.le_refl _)) (by omega) (by decide) (by decide) (r1.out.below L4) (by omega) (nf2 l0))
               replace k4 := hide k4; replace L4 := hide L4; clear n4)
            | (go_at_call 11; (with_reducible refine hw3.out.mono ?_); rintro e w5 ⟨F5, rfl, k5, n5⟩; clear hw3
               have L5 := L4.out.trans n5.2.1
               have hw4 := hide (write_0 w.heap.size b (d3 l0 l1) _ F5 ⟨#[103]⟩ A1 n1 c1 l1 w5 k5 (by omega) (by decide) (by decide) (r1.out.below L5) (by omega) (nf3 l0 l1))
               replace k5 := hide k5; replace L5 := hide L5; clear n5)
            | (go_at_call 11; (with_reducible refine hw4.out.mono ?_); rintro e w6 ⟨F6, rfl, k6, n6⟩; clear hw4
               have L6 := L5.out.trans n6.2.1
               have hw5 : Hid (Calls Try.prog 18 #[.pointer (some ⟨b, 0, none⟩)] w6 fun e w' => e = .returned (.int .i64 2) ∧ w6 = w') := hide (waits_some w.heap.size b (d4 l0 l1) _ F6 w6 k6)
               have hw6 : Hid (Calls Try.prog 15 #[.pointer (some ⟨b, 0, none⟩), .int .i64 2, .int .i64 0] w6 _) := hide (crash_some w.heap.size b (d4 l0 l1) _ 2 0 F6 w6 k6 (by omega) (by omega))
               replace k6 := hide k6; replace L6 := hide L6; clear n6)
            | (go_at_call 18; (with_reducible refine hw5.out.mono ?_); rintro e w7 ⟨rfl, rfl⟩; clear hw5)
            | (go_at_call 15; (with_reducible refine hw6.out.mono ?_); rintro e w8 ⟨F8, rfl, k8, n8⟩; clear hw6
               have L8 := L6.out.trans n8.2.1
               have hF8 := hide k8.2.1
               have hw7 := hide (read_m w.heap.size b (crashed (d4 l0 l1) 2 0) 7 F8 ⟨#[102]⟩ 20000 20000 rfl (l1 ++ l0.drop l1.length) n1 hm7.out w8 (WS.le k8 (m := 7) (Nat.le_refl _)) (by omega) (NF.crashed _ _ _) (by decide) (by decide) (by rw [all_f]; rfl) (by omega) (by omega))
               replace k8 := hide k8; replace L8 := hide L8; clear n8)
            | (go_at_call 12; (with_reducible refine hw7.out.mono ?_); rintro e w9 ⟨A9, c9, rfl, r9, o9, k9, n9⟩; clear hw7
               have L9 := L8.out.trans n9.2.1
               have hw8 := hide (read_m w.heap.size b (tick (crashed (d4 l0 l1) 2 0)) _ F8 ⟨#[103]⟩ 20000 20000 rfl l1 n1 hl1.out w9 k9 (by omega) (NF.tick (NF.crashed _ _ _)) (by decide) (by decide) (by rw [worldNames.tick_seen, all_f]; rfl) (by omega) (by omega))
               replace k9 := hide k9; replace L9 := hide L9; replace r9 := hide r9; replace o9 := hide o9; clear n9)
            | (go_at_call 12; (with_reducible refine hw8.out.mono ?_); rintro e w10 ⟨A10, c10, rfl, r10, -, k10, n10⟩; clear hw8
               have L10 := L9.out.trans n10.2.1
               have r9b := r9.out.mod n10.1 (fun k hk hf => by have := o9.out k hk; have := (hF8.out k hf).2; omega)
               have hc9 := r9b.cap
               have hc9b : n1 ≤ c9 := by omega
               have g1 : ∀ n, (convert 23 9 (.slice A10 n1 c10)).run Try.prog (w10.drewN n) = .ok (.string (strOf l1)) (w10.drewN n) := fun n => conv_row (w := w10.drewN n) r10
               have g2 : ∀ n, (convert 23 9 (.slice A1 n1 c1)).run Try.prog (w10.drewN n) = .ok (.string (strOf l1)) (w10.drewN n) := fun n => conv_str (w := w10.drewN n) (c := c1) (r1.out.below (below_drewN L10 n))
               have g3 : ∀ n, (convert 23 9 (.slice A9 n1 c9)).run Try.prog (w10.drewN n) = .ok (.string (strOf l1)) (w10.drewN n) := fun n => by
                 have := conv_take (w := w10.drewN n) (c := c9) (r9b.rd (ic_len _) rfl) n1 (by omega)
                 rw [List.take_append_of_le_length (by rw [hl1.out]; exact Nat.le_refl _), List.take_of_length_le (by rw [hl1.out]; exact Nat.le_refl _)] at this
                 exact this
               have g4 : ∀ n, (convert 23 9 (.slice (if c9 = n1 then A9 else Option.map (fun x => x.add n1) A9) 0 (c9 - n1))).run Try.prog (w10.drewN n) = .ok (.string (strOf (l0.drop n1))) (w10.drewN n) := fun n => by
                 have := conv_cut (w := w10.drewN n) (c := c9) (r9b.rd (ic_len _) rfl) n1 (by omega) hc9
                 rw [List.drop_append_of_le_length (by rw [hl1.out]; exact Nat.le_refl _), List.drop_eq_nil_of_le (by rw [hl1.out]; exact Nat.le_refl _), List.nil_append, hl1.out] at this
                 rw [Nat.sub_self] at this
                 exact this
               have g5 : ∀ n, (convert 23 9 (.slice (if c0 = n0 then A0 else Option.map (fun x => x.add n0) A0) 0 (c0 - n0))).run Try.prog (w10.drewN n) = .ok (.string (strOf (l0.drop n1))) (w10.drewN n) := fun n => by
                 have := conv_cut (w := w10.drewN n) (c := c0) (r0.out.below (below_drewN L10 n)) n0 (by omega) h0c
                 rw [show l0.drop n0 = l0.drop n1 by rw [List.drop_eq_nil_of_le (by rw [hl0.out]; exact Nat.le_refl _), List.drop_eq_nil_of_le (by rw [hl0.out]; omega)]] at this
                 rw [Nat.sub_self] at this
                 exact this
               replace k10 := hide k10; replace L10 := hide L10; clear n10 r9b r10))
          go_quiet (fail)
          all_goals go_wp2_with fail
          all_goals go_ret
          all_goals exact ⟨rfl, below_drewN L10.out _⟩
        · obtain rfl : n0 = m7 := by omega
          obtain rfl : n0 = n1 := hnk
          replace hm := hide hm
          go_enter Try.func6, Try.ntmps6
          go_wp2_with (first
            | (go_at_call 8; (with_reducible refine (awake_any _).mono ?_); rintro e w1 ⟨rfl, m1⟩
               have L1 := m1.below (B := w.heap.size) (Nat.le_refl _) (fun _ h => h.elim)
               clear m1)
            | (go_at_call 9; (with_reducible refine (new_any _ w.heap.size L1.size).mono ?_); rintro e w2 ⟨b, F, rfl, k2, m2, -⟩
               have L2 := L1.trans (m2.below (B := w.heap.size) L1.size (fun _ h => h.elim))
               have hw1 := hide (write_0 w.heap.size b wd0 0 F ⟨#[102]⟩ A0 n0 c0 l0 w2 k2 (by omega) (by decide) (by decide) (r0.out.below L2) (by omega) NF.wd0)
               replace k2 := hide k2; replace L2 := hide L2; clear m2)
            | (go_at_call 11; (with_reducible refine hw1.out.mono ?_); rintro e w3 ⟨F3, rfl, k3, n3⟩; clear hw1
               have L3 := L2.out.trans n3.2.1
               have hw2 := hide (sync_some w.heap.size b _ _ F3 w3 k3 (by omega) (nf1 l0 _))
               replace k3 := hide k3; replace L3 := hide L3; clear n3)
            | (go_at_call 14; (with_reducible refine hw2.out.mono ?_); rintro e w4 ⟨F4, rfl, k4, n4⟩; clear hw2
               have L4 := L3.out.trans n4.2.1
               have hw3 := hide (write_0 w.heap.size b (d2 l0) _ F4 ⟨#[102]⟩ A1 n0 c1 l1 w4 (WS.le k4 (m := 3) (Nat.le_refl _)) (by omega) (by decide) (by decide) (r1.out.below L4) (by omega) (nf2 l0))
               replace k4 := hide k4; replace L4 := hide L4; clear n4)
            | (go_at_call 11; (with_reducible refine hw3.out.mono ?_); rintro e w5 ⟨F5, rfl, k5, n5⟩; clear hw3
               have L5 := L4.out.trans n5.2.1
               have hw4 := hide (write_0 w.heap.size b (d3 l0 l1) _ F5 ⟨#[103]⟩ A1 n0 c1 l1 w5 k5 (by omega) (by decide) (by decide) (r1.out.below L5) (by omega) (nf3 l0 l1))
               replace k5 := hide k5; replace L5 := hide L5; clear n5)
            | (go_at_call 11; (with_reducible refine hw4.out.mono ?_); rintro e w6 ⟨F6, rfl, k6, n6⟩; clear hw4
               have L6 := L5.out.trans n6.2.1
               have hw5 : Hid (Calls Try.prog 18 #[.pointer (some ⟨b, 0, none⟩)] w6 fun e w' => e = .returned (.int .i64 2) ∧ w6 = w') := hide (waits_some w.heap.size b (d4 l0 l1) _ F6 w6 k6)
               have hw6 : Hid (Calls Try.prog 15 #[.pointer (some ⟨b, 0, none⟩), .int .i64 2, .int .i64 0] w6 _) := hide (crash_some w.heap.size b (d4 l0 l1) _ 2 0 F6 w6 k6 (by omega) (by omega))
               replace k6 := hide k6; replace L6 := hide L6; clear n6)
            | (go_at_call 18; (with_reducible refine hw5.out.mono ?_); rintro e w7 ⟨rfl, rfl⟩; clear hw5)
            | (go_at_call 15; (with_reducible refine hw6.out.mono ?_); rintro e w8 ⟨F8, rfl, k8, n8⟩; clear hw6
               have L8 := L6.out.trans n8.2.1
               have hF8 := hide k8.2.1
               have hw7 := hide (read_m w.heap.size b (crashed (d4 l0 l1) 2 0) 7 F8 ⟨#[102]⟩ 20000 20000 rfl (l1 ++ l0.drop l1.length) n0 hm7.out w8 (WS.le k8 (m := 7) (Nat.le_refl _)) (by omega) (NF.crashed _ _ _) (by decide) (by decide) (by rw [all_f]; rfl) (by omega) (by omega))
               replace k8 := hide k8; replace L8 := hide L8; clear n8)
            | (go_at_call 12; (with_reducible refine hw7.out.mono ?_); rintro e w9 ⟨A9, c9, rfl, r9, o9, k9, n9⟩; clear hw7
               have L9 := L8.out.trans n9.2.1
               have hw8 := hide (read_m w.heap.size b (tick (crashed (d4 l0 l1) 2 0)) _ F8 ⟨#[103]⟩ 20000 20000 rfl l1 n0 hl1.out w9 k9 (by omega) (NF.tick (NF.crashed _ _ _)) (by decide) (by decide) (by rw [worldNames.tick_seen, all_f]; rfl) (by omega) (by omega))
               replace k9 := hide k9; replace L9 := hide L9; replace r9 := hide r9; replace o9 := hide o9; clear n9)
            | (go_at_call 12; (with_reducible refine hw8.out.mono ?_); rintro e w10 ⟨A10, c10, rfl, r10, -, k10, n10⟩; clear hw8
               have L10 := L9.out.trans n10.2.1
               have r9b := r9.out.mod n10.1 (fun k hk hf => by have := o9.out k hk; have := (hF8.out k hf).2; omega)
               have hc9 := r9b.cap
               have hc9b : n0 ≤ c9 := by omega
               have g1 : ∀ n, (convert 23 9 (.slice A10 n0 c10)).run Try.prog (w10.drewN n) = .ok (.string (strOf l1)) (w10.drewN n) := fun n => conv_row (w := w10.drewN n) r10
               have g2 : ∀ n, (convert 23 9 (.slice A1 n0 c1)).run Try.prog (w10.drewN n) = .ok (.string (strOf l1)) (w10.drewN n) := fun n => conv_str (w := w10.drewN n) (c := c1) (r1.out.below (below_drewN L10 n))
               have g3 : ∀ n, (convert 23 9 (.slice A9 n0 c9)).run Try.prog (w10.drewN n) = .ok (.string (strOf l1)) (w10.drewN n) := fun n => by
                 have := conv_take (w := w10.drewN n) (c := c9) (r9b.rd (ic_len _) rfl) n0 (by omega)
                 rw [List.take_append_of_le_length (by rw [hl1.out]; exact Nat.le_refl _), List.take_of_length_le (by rw [hl1.out]; exact Nat.le_refl _)] at this
                 exact this
               have g4 : ∀ n, (convert 23 9 (.slice (if c9 = n0 then A9 else Option.map (fun x => x.add n0) A9) 0 (c9 - n0))).run Try.prog (w10.drewN n) = .ok (.string (strOf (l0.drop n0))) (w10.drewN n) := fun n => by
                 have := conv_cut (w := w10.drewN n) (c := c9) (r9b.rd (ic_len _) rfl) n0 (by omega) hc9
                 rw [List.drop_append_of_le_length (by rw [hl1.out]; exact Nat.le_refl _), List.drop_eq_nil_of_le (by rw [hl1.out]; exact Nat.le_refl _), List.nil_append, hl1.out] at this
                 rw [Nat.sub_self] at this
                 exact this
               have g5 : ∀ n, (convert 23 9 (.slice (if c0 = n0 then A0 else Option.map (fun x => x.add n0) A0) 0 (c0 - n0))).run Try.prog (w10.drewN n) = .ok (.string (strOf (l0.drop n0))) (w10.drewN n) := fun n => by
                 have := conv_cut (w := w10.drewN n) (c := c0) (r0.out.below (below_drewN L10 n)) n0 (by omega) h0c
                 rw [Nat.sub_self] at this
                 exact this
               replace k10 := hide k10; replace L10 := hide L10; clear n10 r9b r10))
          go_quiet (fail)
          all_goals go_wp2_with fail
          all_goals go_ret
          all_goals exact ⟨rfl, below_drewN L10.out _⟩
        · obtain rfl : n0 = m7 := by omega
          replace hm := hide hm
          have hle : n1 ≤ n0 := by omega
          have hle2 : n1 ≤ c0 := by omega
          go_enter Try.func6, Try.ntmps6
          go_wp2_with (first
            | (go_at_call 8; (with_reducible refine (awake_any _).mono ?_); rintro e w1 ⟨rfl, m1⟩
               have L1 := m1.below (B := w.heap.size) (Nat.le_refl _) (fun _ h => h.elim)
               clear m1)
            | (go_at_call 9; (with_reducible refine (new_any _ w.heap.size L1.size).mono ?_); rintro e w2 ⟨b, F, rfl, k2, m2, -⟩
               have L2 := L1.trans (m2.below (B := w.heap.size) L1.size (fun _ h => h.elim))
               have hw1 := hide (write_0 w.heap.size b wd0 0 F ⟨#[102]⟩ A0 n0 c0 l0 w2 k2 (by omega) (by decide) (by decide) (r0.out.below L2) (by omega) NF.wd0)
               replace k2 := hide k2; replace L2 := hide L2; clear m2)
            | (go_at_call 11; (with_reducible refine hw1.out.mono ?_); rintro e w3 ⟨F3, rfl, k3, n3⟩; clear hw1
               have L3 := L2.out.trans n3.2.1
               have hw2 := hide (sync_some w.heap.size b _ _ F3 w3 k3 (by omega) (nf1 l0 _))
               replace k3 := hide k3; replace L3 := hide L3; clear n3)
            | (go_at_call 14; (with_reducible refine hw2.out.mono ?_); rintro e w4 ⟨F4, rfl, k4, n4⟩; clear hw2
               have L4 := L3.out.trans n4.2.1
               have hw3 := hide (write_0 w.heap.size b (d2 l0) _ F4 ⟨#[102]⟩ A1 n1 c1 l1 w4 (WS.le k4 (m := 3) (Nat.le_refl _)) (by omega) (by decide) (by decide) (r1.out.below L4) (by omega) (nf2 l0))
               replace k4 := hide k4; replace L4 := hide L4; clear n4)
            | (go_at_call 11; (with_reducible refine hw3.out.mono ?_); rintro e w5 ⟨F5, rfl, k5, n5⟩; clear hw3
               have L5 := L4.out.trans n5.2.1
               have hw4 := hide (write_0 w.heap.size b (d3 l0 l1) _ F5 ⟨#[103]⟩ A1 n1 c1 l1 w5 k5 (by omega) (by decide) (by decide) (r1.out.below L5) (by omega) (nf3 l0 l1))
               replace k5 := hide k5; replace L5 := hide L5; clear n5)
            | (go_at_call 11; (with_reducible refine hw4.out.mono ?_); rintro e w6 ⟨F6, rfl, k6, n6⟩; clear hw4
               have L6 := L5.out.trans n6.2.1
               have hw5 : Hid (Calls Try.prog 18 #[.pointer (some ⟨b, 0, none⟩)] w6 fun e w' => e = .returned (.int .i64 2) ∧ w6 = w') := hide (waits_some w.heap.size b (d4 l0 l1) _ F6 w6 k6)
               have hw6 : Hid (Calls Try.prog 15 #[.pointer (some ⟨b, 0, none⟩), .int .i64 2, .int .i64 0] w6 _) := hide (crash_some w.heap.size b (d4 l0 l1) _ 2 0 F6 w6 k6 (by omega) (by omega))
               replace k6 := hide k6; replace L6 := hide L6; clear n6)
            | (go_at_call 18; (with_reducible refine hw5.out.mono ?_); rintro e w7 ⟨rfl, rfl⟩; clear hw5)
            | (go_at_call 15; (with_reducible refine hw6.out.mono ?_); rintro e w8 ⟨F8, rfl, k8, n8⟩; clear hw6
               have L8 := L6.out.trans n8.2.1
               have hF8 := hide k8.2.1
               have hw7 := hide (read_m w.heap.size b (crashed (d4 l0 l1) 2 0) 7 F8 ⟨#[102]⟩ 20000 20000 rfl (l1 ++ l0.drop l1.length) n0 hm7.out w8 (WS.le k8 (m := 7) (Nat.le_refl _)) (by omega) (NF.crashed _ _ _) (by decide) (by decide) (by rw [all_f]; rfl) (by omega) (by omega))
               replace k8 := hide k8; replace L8 := hide L8; clear n8)
            | (go_at_call 12; (with_reducible refine hw7.out.mono ?_); rintro e w9 ⟨A9, c9, rfl, r9, o9, k9, n9⟩; clear hw7
               have L9 := L8.out.trans n9.2.1
               have hw8 := hide (read_m w.heap.size b (tick (crashed (d4 l0 l1) 2 0)) _ F8 ⟨#[103]⟩ 20000 20000 rfl l1 n1 hl1.out w9 k9 (by omega) (NF.tick (NF.crashed _ _ _)) (by decide) (by decide) (by rw [worldNames.tick_seen, all_f]; rfl) (by omega) (by omega))
               replace k9 := hide k9; replace L9 := hide L9; replace r9 := hide r9; replace o9 := hide o9; clear n9)
            | (go_at_call 12; (with_reducible refine hw8.out.mono ?_); rintro e w10 ⟨A10, c10, rfl, r10, -, k10, n10⟩; clear hw8
               have L10 := L9.out.trans n10.2.1
               have r9b := r9.out.mod n10.1 (fun k hk hf => by have := o9.out k hk; have := (hF8.out k hf).2; omega)
               have hc9 := r9b.cap
               have hc9b : n1 ≤ c9 := by omega
               have g1 : ∀ n, (convert 23 9 (.slice A10 n1 c10)).run Try.prog (w10.drewN n) = .ok (.string (strOf l1)) (w10.drewN n) := fun n => conv_row (w := w10.drewN n) r10
               have g2 : ∀ n, (convert 23 9 (.slice A1 n1 c1)).run Try.prog (w10.drewN n) = .ok (.string (strOf l1)) (w10.drewN n) := fun n => conv_str (w := w10.drewN n) (c := c1) (r1.out.below (below_drewN L10 n))
               have g3 : ∀ n, (convert 23 9 (.slice A9 n1 c9)).run Try.prog (w10.drewN n) = .ok (.string (strOf l1)) (w10.drewN n) := fun n => by
                 have := conv_take (w := w10.drewN n) (c := c9) (r9b.rd (ic_len _) rfl) n1 (by omega)
                 rw [List.take_append_of_le_length (by rw [hl1.out]; exact Nat.le_refl _), List.take_of_length_le (by rw [hl1.out]; exact Nat.le_refl _)] at this
                 exact this
               have g4 : ∀ n, (convert 23 9 (.slice (if c9 = n1 then A9 else Option.map (fun x => x.add n1) A9) (n0 - n1) (c9 - n1))).run Try.prog (w10.drewN n) = .ok (.string (strOf (l0.drop n1))) (w10.drewN n) := fun n => by
                 have := conv_cut (w := w10.drewN n) (c := c9) (r9b.rd (ic_len _) rfl) n1 (by omega) hc9
                 rw [List.drop_append_of_le_length (by rw [hl1.out]; exact Nat.le_refl _), List.drop_eq_nil_of_le (by rw [hl1.out]; exact Nat.le_refl _), List.nil_append, hl1.out] at this
                 exact this
               have g5 : ∀ n, (convert 23 9 (.slice (if c0 = n1 then A0 else Option.map (fun x => x.add n1) A0) (n0 - n1) (c0 - n1))).run Try.prog (w10.drewN n) = .ok (.string (strOf (l0.drop n1))) (w10.drewN n) := fun n => by
                 have := conv_cut (w := w10.drewN n) (c := c0) (r0.out.below (below_drewN L10 n)) n1 (by omega) h0c
                 exact this
               replace k10 := hide k10; replace L10 := hide L10; clear n10 r9b r10))
          go_quiet (fail)
          all_goals go_wp2_with fail
          all_goals go_ret
          all_goals exact ⟨rfl, below_drewN L10.out _⟩
end Go.Proofs.Ytmlnieblgkhjnaa.worldLoses
