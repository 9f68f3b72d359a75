/-
  The walk of WorldTorn. No condition.
-/
import Derived.Test.YtmlnieblgkhjnaaAwake
import Derived.Test.YtmlnieblgkhjnaaCrash
namespace Go.Proofs.Ytmlnieblgkhjnaa
open Go.RowKit Go.Maps
theorem NF.synced {d : Wd} (h : NF d) : NF (synced d) := h
theorem NF.crashed (d : Wd) (keep torn : Nat) : NF (crashed d keep torn) := fun _ => rfl
theorem wrt_0 (o p : List Int) : wrt (some o) 0 p = p ++ o.drop p.length := by
  unfold wrt
  simp only [Option.getD_some, List.take_zero, List.nil_append, Nat.zero_add]
  congr 1
  by_cases h : p.length ≤ o.length
  · have e : p.length - o.length = 0 := by omega
    rw [e]; simp
  · have e : o.drop p.length = [] := List.drop_eq_nil_of_le (by omega)
    rw [e, List.drop_eq_nil_of_le]
    simp; omega
theorem synced_seen (d : Wd) : (synced d).seen = d.seen := rfl
theorem synced_dur (d : Wd) : (synced d).dur = apAll d.dur d.waits := rfl
theorem crashed_seen (d : Wd) (keep torn : Nat) : (crashed d keep torn).seen = crN d.dur d.waits keep torn d.waits.length := rfl
theorem waits_w {d : Wd} (h : NF d) (c : Cg) : (did d c).waits = d.waits ++ [c] := by rw [h.eq]
theorem dur_w {d : Wd} (h : NF d) (c : Cg) : (did d c).dur = d.dur := by rw [h.eq]
theorem crash_0 (B b : Nat) (d : Wd) (N torn : Nat) (F : Nat → Prop) (w : World) (h : WS B w b d N F) (hN : N < 100000) (ht : torn ≤ 1048576) :
    Calls Try.prog 15 #[.pointer (some ⟨b, 0, none⟩), .int .i64 0, .int .i64 torn] w fun e w' => ∃ F', e = .returned (.tuple #[]) ∧ WS B w' b (crashed d 0 torn) (N + d.waits.length) F' ∧ Nxt B F F' w w' := crash_some B b d N 0 torn F w h hN ht
theorem WS.le {B b n m : Nat} {d : Wd} {F : Nat → Prop} {w : World} (h : WS B w b d n F) (hm : n ≤ m) : WS B w b d m F := by
  obtain ⟨⟨sb, db, wv, fv, vs, Fb, h1, h2⟩, h3, h4⟩ := h
  exact ⟨⟨sb, db, wv, fv, vs, Fb, { h1 with seen := h1.seen.le hm, dur := h1.dur.le hm, fls := h1.fls.mono hm, lo := Nat.le_trans h1.lo hm, lw := Nat.le_trans h1.lw hm }, h2⟩, h3, h4⟩
theorem read_m (B b : Nat) (d : Wd) (N : Nat) (F : Nat → Prop) (s : ByteArray) (n : Nat) (z : Int) (hz : z = n) (L : List Int) (m : Nat) (hm : L.length = m) (w : World) (h : WS B w b d N F) (hN : N < 100000) (hfl : NF d) (h1 : 1 ≤ s.size) (h2 : s.size ≤ 32) (hs : d.seen s = some L) (hn : n ≤ 100000) (hL : m ≤ n) :
    Calls Try.prog 12 #[.pointer (some ⟨b, 0, none⟩), .string s, .int .i64 0, .int .i64 z] w fun e w' => ∃ A c, e = .returned (.tuple #[.slice A m c, .int .i64 0]) ∧ Row w' 5 1 (ic .u8) (.slice A m c) L ∧ (∀ k, (Value.slice A m c).ownBlock = some k → w.heap.size ≤ k) ∧ WS B w' b (tick d) (N + 1) F ∧ Nxt B F F w w' := by
  subst hm
  exact read_0 B b d N F s n z hz L w h hN hfl h1 h2 hs hn hL
theorem Row.cap {w : World} {A : Option Addr} {n c : Nat} {L : List Int} (h : Row w 5 1 (ic .u8) (.slice A n c) L) : n ≤ c := by
  obtain ⟨_, _, e, h1, -⟩ := h.slice
  injection e with _ e1 e2
  omega
theorem conv_take {w : World} {A : Option Addr} {n c : Nat} {L : List Int} (h : Rd w 1 (ic .u8) A n L) (k : Nat) (hk : k ≤ n) : (convert 23 9 (.slice A k c)).run Try.prog w = .ok (.string (strOf (L.take k))) w := conv_str (h.take k hk)
theorem conv_cut {w : World} {A : Option Addr} {n c : Nat} {L : List Int} (h : Rd w 1 (ic .u8) A n L) (k : Nat) (hk : k ≤ n) (hc : n ≤ c) : (convert 23 9 (.slice (if c = k then A else Option.map (fun x => x.add k) A) (n - k) (c - k))).run Try.prog w = .ok (.string (strOf (L.drop k))) w := by
  refine conv_str ?_
  split
  · have e : n - k = 0 := by omega
    rw [e, List.drop_eq_nil_of_le (by rw [h.1]; omega)]
    exact Rd.none_ _ _ _ _
  · have := h.drop k hk
    simpa using this
end Go.Proofs.Ytmlnieblgkhjnaa
namespace Go.Proofs.Ytmlnieblgkhjnaa.worldTorn
open Go.RowKit Go.Maps
/-- The world after the first write and Sync. -/
def d2 (p : List Int) : Wd := synced (did wd0 ⟨119, ⟨#[102]⟩, ⟨#[]⟩, 0, p⟩)
theorem nf1 (p : List Int) : NF (did wd0 ⟨119, ⟨#[102]⟩, ⟨#[]⟩, 0, p⟩) := NF.wd0.did _
theorem nf2 (p : List Int) : NF (d2 p) := (nf1 p).synced
theorem s2 (p : List Int) : (d2 p).seen ⟨#[102]⟩ = some p := by
  unfold d2
  rw [synced_seen, seen_w NF.wd0, upd_same]
  exact congrArg some (wrt_new p)
theorem u2 (p : List Int) : (d2 p).dur = upd (fun _ => none) ⟨#[102]⟩ (some p) := by
  unfold d2
  rw [synced_dur, dur_w NF.wd0, waits_w NF.wd0]
  show ap (fun _ => none) ⟨119, ⟨#[102]⟩, ⟨#[]⟩, 0, p⟩ p.length = _
  simp [ap, wrt_new]
theorem w2 (p : List Int) : (d2 p).waits = [] := rfl
/-- After the second write and the crash. -/
def d4 (p q : List Int) (k : Nat) : Wd := crashed (did (d2 p) ⟨119, ⟨#[102]⟩, ⟨#[]⟩, 0, q⟩) 0 k
theorem s4 (p q : List Int) (k : Nat) (hk : k ≤ q.length) : (d4 p q k).seen ⟨#[102]⟩ = some (q.take k ++ p.drop k) := by
  unfold d4
  rw [crashed_seen, waits_w (nf2 p), dur_w (nf2 p), u2, w2]
  show crS (upd (fun _ => none) ⟨#[102]⟩ (some p)) ⟨119, ⟨#[102]⟩, ⟨#[]⟩, 0, q⟩ 0 k 0 ⟨#[102]⟩ = _
  unfold crS
  by_cases h : 0 < k
  · simp only [Nat.lt_irrefl, if_false]
    rw [if_pos ⟨trivial, trivial, h⟩]
    simp only [ap, if_true, upd_same]
    rw [wrt_0, List.length_take, Nat.min_eq_left hk]
  · obtain rfl : k = 0 := by omega
    simp [upd_same]
theorem rlen (p q : List Int) (k : Nat) (hk : k ≤ q.length) : (q.take k ++ p.drop k).length = max p.length k := by
  rw [List.length_append, List.length_take, List.length_drop]; omega
theorem rtake (p q : List Int) (k : Nat) (hk : k ≤ q.length) : (q.take k ++ p.drop k).take k = q.take k := by
  rw [List.take_append_of_le_length (by rw [List.length_take]; omega), List.take_take, Nat.min_self]
theorem rdrop (p q : List Int) (k : Nat) (hk : k ≤ q.length) : (q.take k ++ p.drop k).drop k = p.drop k := by
  rw [List.drop_append_of_le_length (by rw [List.length_take]; omega), List.drop_eq_nil_of_le (by rw [List.length_take]; omega), List.nil_append]
set_option maxHeartbeats 4000000 in
theorem walk0 (A0 : Option Addr) (n0 c0 : Nat) (l0 : List Int) (A1 : Option Addr) (n1 c1 : Nat) (l1 : List Int) (a2 : Int) (w : World) (r0 : Rd w 1 (ic .u8) A0 n0 l0) (_ : ∀ x ∈ l0, 0 ≤ x ∧ x ≤ 255) (r1 : Rd w 1 (ic .u8) A1 n1 l1) (_ : ∀ x ∈ l1, 0 ≤ x ∧ x ≤ 255) (hb : 0 ≤ a2 ∧ a2 ≤ 65535) (h0c : n0 ≤ c0) (h1c : n1 ≤ c1) :
    Calls Try.prog 4 #[.slice A0 n0 c0, .slice A1 n1 c1, .int .u16 a2] w fun e w' => e = .returned (.bool true) ∧ Below w.heap.size w w' := by
  by_cases h0 : 5000 < n0
  · have e0 : decide (5000 < (n0 : Int)) = true := by simp; omega
    replace r0 := hide r0
    replace r1 := hide r1
    go_enter Try.func4, Try.ntmps4
    go_wp2_with (go_at_call 8; (with_reducible refine (awake_any _).mono ?_); rintro e w1 ⟨rfl, m1⟩
                 first
                 | have m2 := hide (ma.out.trans m1 (fun _ _ h => h))
                   clear m1
                 | have ma := hide m1
                   clear m1)
    go_ret
    exact ⟨rfl, m2.out.below (Nat.le_refl _) (fun _ h => h.elim)⟩
  · have e0 : decide (5000 < (n0 : Int)) = false := by simp; omega
    by_cases h1 : 5000 < n1
    · have e1 : decide (5000 < (n1 : Int)) = true := by simp; omega
      replace r0 := hide r0
      replace r1 := hide r1
      go_enter Try.func4, Try.ntmps4
      go_wp2_with (go_at_call 8; (with_reducible refine (awake_any _).mono ?_); rintro e w1 ⟨rfl, m1⟩
                   first
                   | have m2 := hide (ma.out.trans m1 (fun _ _ h => h))
                     clear m1
                   | have ma := hide m1
                     clear m1)
      go_ret
      exact ⟨rfl, m2.out.below (Nat.le_refl _) (fun _ h => h.elim)⟩
    · have e1 : decide (5000 < (n1 : Int)) = false := by simp; omega
      have hl0 := hide r0.1
      have hl1 := hide r1.1
      replace r0 := hide r0
      replace r1 := hide r1
      obtain ⟨k, hk⟩ : ∃ k : Nat, k = a2.toNat % (n1 + 1) := ⟨_, rfl⟩
      have hkn : k ≤ n1 := by have := Nat.mod_lt a2.toNat (show 0 < n1 + 1 by omega); omega
      have e2 : IntKind.i64.wrap a2 = a2 := IntWalk.i64_in _ (by omega)
      have e3 : a2.tmod ((n1 : Int) + 1) = (k : Int) := by
        rw [Int.tmod_eq_emod_of_nonneg hb.1, hk]
        obtain ⟨x, rfl⟩ := Int.eq_ofNat_of_zero_le hb.1
        simp
      have e4 : ¬ ((n1 : Int) + 1 = 0) := by omega
      replace hk := hide hk
      have hkl : Hid (k ≤ l1.length) := hide (by rw [hl1.out]; exact hkn)
      have hm := rlen l0 l1 k hkl.out
      rw [hl0.out] at hm
      obtain ⟨m7, hm7⟩ : ∃ m7, (l1.take k ++ l0.drop k).length = m7 := ⟨_, rfl⟩
      rw [hm7] at hm
      replace hm7 := hide hm7
      rcases Nat.lt_or_ge n0 k with hnk | hnk
      · obtain rfl : k = m7 := by omega
        have e5 : decide (n0 ≤ k) = true := by simp; omega
        replace hm := hide hm
        go_enter Try.func4, Try.ntmps4
        go_wp2_with (first
          | (go_at_call 8; (with_reducible refine (awake_any _).mono ?_); rintro e w1 ⟨rfl, m1⟩
             have L1 := m1.below (B := w.heap.size) (Nat.le_refl _) (fun _ h => h.elim)
             clear m1)
          | (go_at_call 9; (with_reducible refine (new_any _ w.heap.size L1.size).mono ?_); rintro e w2 ⟨b, F, rfl, k2, m2, -⟩
             have L2 := L1.trans (m2.below (B := w.heap.size) L1.size (fun _ h => h.elim))
             have hw1 := hide (write_0 w.heap.size b wd0 0 F ⟨#[102]⟩ A0 n0 c0 l0 w2 k2 (by omega) (by decide) (by decide) (r0.out.below L2) (by omega) NF.wd0)
             replace k2 := hide k2; replace L2 := hide L2; clear m2)
          | (go_at_call 11; (with_reducible refine hw1.out.mono ?_); rintro e w3 ⟨F3, rfl, k3, n3⟩; clear hw1
             have L3 := L2.out.trans n3.2.1
             have hw2 := hide (sync_some w.heap.size b _ _ F3 w3 k3 (by omega) (nf1 l0 _))
             replace k3 := hide k3; replace L3 := hide L3; clear n3)
          | (go_at_call 14; (with_reducible refine hw2.out.mono ?_); rintro e w4 ⟨F4, rfl, k4, n4⟩; clear hw2
             have L4 := L3.out.trans n4.2.1
             have hw3 := hide (write_0 w.heap.size b (d2 l0) _ F4 ⟨#[102]⟩ A1 n1 c1 l1 w4 (WS.le k4 (m := 3) (Nat.le_refl _)) (by omega) (by decide) (by decide) (r1.out.below L4) (by omega) (nf2 l0))
             replace k4 := hide k4; replace L4 := hide L4; clear n4)
          | (go_at_call 11; (with_reducible refine hw3.out.mono ?_); rintro e w5 ⟨F5, rfl, k5, n5⟩; clear hw3
             have L5 := L4.out.trans n5.2.1
             have hw4 := hide (crash_0 w.heap.size b _ _ k F5 w5 k5 (by omega) (by omega))
             replace k5 := hide k5; replace L5 := hide L5; clear n5)
          | (go_at_call 15; (with_reducible refine hw4.out.mono ?_); rintro e w6 ⟨F6, rfl, k6, n6⟩; clear hw4
             have L6 := L5.out.trans n6.2.1
             have hw5 := hide (read_m w.heap.size b (d4 l0 l1 k) 5 F6 ⟨#[102]⟩ 10000 10000 rfl (l1.take k ++ l0.drop k) k hm7.out w6 (WS.le k6 (m := 5) (Nat.le_refl _)) (by omega) (NF.crashed _ _ _) (by decide) (by decide) (s4 l0 l1 k hkl.out) (by omega) (by omega))
             replace k6 := hide k6; replace L6 := hide L6; clear n6)
          | (go_at_call 12; (with_reducible refine hw5.out.mono ?_); rintro e w7 ⟨A7, c7, rfl, r7, -, k7, n7⟩; clear hw5
             have L7 := L6.out.trans n7.2.1
             have hc7 := r7.cap
             have t1 : ∀ n, (convert 23 9 (.slice A7 k c7)).run Try.prog (w7.drewN n) = .ok (.string (strOf (l1.take k))) (w7.drewN n) := fun n => by
               have := conv_take (w := w7.drewN n) (c := c7) (r7.rd (ic_len _) rfl) k (by omega)
               rw [rtake _ _ _ hkl.out] at this
               exact this
             have t2 : ∀ n, (convert 23 9 (.slice A1 k c1)).run Try.prog (w7.drewN n) = .ok (.string (strOf (l1.take k))) (w7.drewN n) := fun n => conv_take (w := w7.drewN n) (c := c1) (r1.out.below (below_drewN L7 n)) k hkn
             have t3 : ∀ n, (convert 23 9 (.slice (if c7 = k then A7 else Option.map (fun x => x.add k) A7) (k - k) (c7 - k))).run Try.prog (w7.drewN n) = .ok (.string (strOf (l0.drop k))) (w7.drewN n) := fun n => by
               have := conv_cut (w := w7.drewN n) (c := c7) (r7.rd (ic_len _) rfl) k (by omega) hc7
               rw [rdrop _ _ _ hkl.out] at this
               exact this
             replace k7 := hide k7; replace L7 := hide L7; clear n7 r7))
        go_quiet (fail)
        go_wp2_with fail
        go_quiet (fail)
        go_wp2_with fail
        go_ret
        first | exact ⟨rfl, below_drewN (below_drewN L7.out _) _⟩ | exact ⟨rfl, below_drewN L7.out _⟩
      · obtain rfl : n0 = m7 := by omega
        replace hm := hide hm
        go_enter Try.func4, Try.ntmps4
        go_wp2_with (first
          | (go_at_call 8; (with_reducible refine (awake_any _).mono ?_); rintro e w1 ⟨rfl, m1⟩
             have L1 := m1.below (B := w.heap.size) (Nat.le_refl _) (fun _ h => h.elim)
             clear m1)
          | (go_at_call 9; (with_reducible refine (new_any _ w.heap.size L1.size).mono ?_); rintro e w2 ⟨b, F, rfl, k2, m2, -⟩
             have L2 := L1.trans (m2.below (B := w.heap.size) L1.size (fun _ h => h.elim))
             have hw1 := hide (write_0 w.heap.size b wd0 0 F ⟨#[102]⟩ A0 n0 c0 l0 w2 k2 (by omega) (by decide) (by decide) (r0.out.below L2) (by omega) NF.wd0)
             replace k2 := hide k2; replace L2 := hide L2; clear m2)
          | (go_at_call 11; (with_reducible refine hw1.out.mono ?_); rintro e w3 ⟨F3, rfl, k3, n3⟩; clear hw1
             have L3 := L2.out.trans n3.2.1
             have hw2 := hide (sync_some w.heap.size b _ _ F3 w3 k3 (by omega) (nf1 l0 _))
             replace k3 := hide k3; replace L3 := hide L3; clear n3)
          | (go_at_call 14; (with_reducible refine hw2.out.mono ?_); rintro e w4 ⟨F4, rfl, k4, n4⟩; clear hw2
             have L4 := L3.out.trans n4.2.1
             have hw3 := hide (write_0 w.heap.size b (d2 l0) _ F4 ⟨#[102]⟩ A1 n1 c1 l1 w4 (WS.le k4 (m := 3) (Nat.le_refl _)) (by omega) (by decide) (by decide) (r1.out.below L4) (by omega) (nf2 l0))
             replace k4 := hide k4; replace L4 := hide L4; clear n4)
          | (go_at_call 11; (with_reducible refine hw3.out.mono ?_); rintro e w5 ⟨F5, rfl, k5, n5⟩; clear hw3
             have L5 := L4.out.trans n5.2.1
             have hw4 := hide (crash_0 w.heap.size b _ _ k F5 w5 k5 (by omega) (by omega))
             replace k5 := hide k5; replace L5 := hide L5; clear n5)
          | (go_at_call 15; (with_reducible refine hw4.out.mono ?_); rintro e w6 ⟨F6, rfl, k6, n6⟩; clear hw4
             have L6 := L5.out.trans n6.2.1
             have hw5 := hide (read_m w.heap.size b (d4 l0 l1 k) 5 F6 ⟨#[102]⟩ 10000 10000 rfl (l1.take k ++ l0.drop k) n0 hm7.out w6 (WS.le k6 (m := 5) (Nat.le_refl _)) (by omega) (NF.crashed _ _ _) (by decide) (by decide) (s4 l0 l1 k hkl.out) (by omega) (by omega))
             replace k6 := hide k6; replace L6 := hide L6; clear n6)
          | (go_at_call 12; (with_reducible refine hw5.out.mono ?_); rintro e w7 ⟨A7, c7, rfl, r7, -, k7, n7⟩; clear hw5
             have L7 := L6.out.trans n7.2.1
             have hc7 := r7.cap
             have t1 : ∀ n, (convert 23 9 (.slice A7 k c7)).run Try.prog (w7.drewN n) = .ok (.string (strOf (l1.take k))) (w7.drewN n) := fun n => by
               have := conv_take (w := w7.drewN n) (c := c7) (r7.rd (ic_len _) rfl) k (by omega)
               rw [rtake _ _ _ hkl.out] at this
               exact this
             have t2 : ∀ n, (convert 23 9 (.slice A1 k c1)).run Try.prog (w7.drewN n) = .ok (.string (strOf (l1.take k))) (w7.drewN n) := fun n => conv_take (w := w7.drewN n) (c := c1) (r1.out.below (below_drewN L7 n)) k hkn
             have t3 : ∀ n, (convert 23 9 (.slice (if c7 = k then A7 else Option.map (fun x => x.add k) A7) (n0 - k) (c7 - k))).run Try.prog (w7.drewN n) = .ok (.string (strOf (l0.drop k))) (w7.drewN n) := fun n => by
               have := conv_cut (w := w7.drewN n) (c := c7) (r7.rd (ic_len _) rfl) k (by omega) hc7
               rw [rdrop _ _ _ hkl.out] at this
               exact this
             have t4 : ∀ n, (convert 23 9 (.slice (if c0 = k then A0 else Option.map (fun x => x.add k) A0) (n0 - k) (c0 - k))).run Try.prog (w7.drewN n) = .ok (.string (strOf (l0.drop k))) (w7.drewN n) := fun n => conv_cut (w := w7.drewN n) (c := c0) (r0.out.below (below_drewN L7 n)) k hnk h0c
             replace k7 := hide k7; replace L7 := hide L7; clear n7 r7))
        go_quiet (fail)
        go_wp2_with fail
        rcases Nat.lt_or_ge k n0 with hk0 | hk0
        · have e5 : decide (n0 ≤ k) = false := by simp; omega
          go_quiet (fail)
          go_wp2_with fail
          go_ret
          first | exact ⟨rfl, below_drewN (below_drewN L7.out _) _⟩ | exact ⟨rfl, below_drewN L7.out _⟩
        · have e5 : decide ((n0 : Int) ≤ k) = true := by simp; omega
          go_quiet (fail)
          go_wp2_with fail
          go_ret
          first | exact ⟨rfl, below_drewN (below_drewN L7.out _) _⟩ | exact ⟨rfl, below_drewN L7.out _⟩
end Go.Proofs.Ytmlnieblgkhjnaa.worldTorn
