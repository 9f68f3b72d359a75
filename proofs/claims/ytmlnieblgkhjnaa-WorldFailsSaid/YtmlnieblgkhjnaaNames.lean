/-
  The walk of WorldNames. No condition.
-/
import Derived.Test.YtmlnieblgkhjnaaAwake
namespace Go.Proofs.Ytmlnieblgkhjnaa
open Go.RowKit Go.Maps
theorem size_yes (B b : Nat) (d : Wd) (N : Nat) (F : Nat → Prop) (s : ByteArray) (n : Nat) (w : World) (h : WS B w b d N F) (h2 : s.size ≤ 32) (L : List Int) (hs : d.seen s = some L) (hn : L.length = n) :
    Calls Try.prog 13 #[.pointer (some ⟨b, 0, none⟩), .string s] w fun e w' => e = .returned (.int .i64 n) ∧ w = w' := by
  have := size_some B b d N F s w h h2
  rw [hs] at this
  rw [← hn]
  exact this
theorem size_no (B b : Nat) (d : Wd) (N : Nat) (F : Nat → Prop) (s : ByteArray) (w : World) (h : WS B w b d N F) (h2 : s.size ≤ 32) (hs : d.seen s = none) :
    Calls Try.prog 13 #[.pointer (some ⟨b, 0, none⟩), .string s] w fun e w' => e = .returned (.int .i64 (-1)) ∧ w = w' := by
  have := size_some B b d N F s w h h2
  rw [hs] at this
  exact this
end Go.Proofs.Ytmlnieblgkhjnaa
namespace Go.Proofs.Ytmlnieblgkhjnaa.worldNames
open Go.RowKit Go.Maps
def na : ByteArray := ⟨#[97]⟩
def nb : ByteArray := ⟨#[98]⟩
/-- The world after the writes. -/
def d2 (p q : List Int) : Wd := did (did wd0 ⟨119, ⟨#[97]⟩, ⟨#[]⟩, 0, p⟩) ⟨119, ⟨#[98]⟩, ⟨#[]⟩, 0, q⟩
theorem nf2 (p q : List Int) : NF (d2 p q) := (NF.wd0.did _).did _
theorem s2 (p q : List Int) : (d2 p q).seen = upd (upd (fun _ => none) ⟨#[97]⟩ (some p)) ⟨#[98]⟩ (some q) := by
  unfold d2
  rw [seen_w (NF.wd0.did _), seen_w NF.wd0]
  have h : wd0.seen ⟨#[97]⟩ = none := rfl
  rw [h, wrt_new]
  have h2 : upd wd0.seen ⟨#[97]⟩ (some p) ⟨#[98]⟩ = none := rfl
  rw [h2, wrt_new]
  rfl
/-- The world after the rename. -/
def d3 (p q : List Int) (nt : ByteArray) : Wd := did (d2 p q) ⟨110, ⟨#[97]⟩, nt, 0, []⟩
theorem nf3 (p q : List Int) (nt : ByteArray) : NF (d3 p q nt) := (nf2 p q).did _
theorem s3 (p q : List Int) (nt : ByteArray) : (d3 p q nt).seen = upd (upd (d2 p q).seen ⟨#[97]⟩ none) nt (some p) := by
  unfold d3
  rw [seen_n (nf2 p q) _ _ p (by rw [s2]; rfl)]
def d6 (p q : List Int) (nt : ByteArray) : Wd := tick (tick (tick (d3 p q nt)))
def d7 (p q : List Int) (nt : ByteArray) : Wd := did (d6 p q nt) ⟨114, nt, ⟨#[]⟩, 0, []⟩
theorem tick_seen (d : Wd) : (tick d).seen = d.seen := rfl
theorem s6 (p q : List Int) (nt : ByteArray) : (d6 p q nt).seen = (d3 p q nt).seen := by unfold d6; rw [tick_seen, tick_seen, tick_seen]
theorem nf6 (p q : List Int) (nt : ByteArray) : NF (d6 p q nt) := NF.tick (NF.tick (NF.tick (nf3 p q nt)))
theorem s7 (p q : List Int) (nt : ByteArray) : (d7 p q nt).seen = upd (d6 p q nt).seen nt none := by
  unfold d7
  rw [seen_r (nf6 p q nt)]
theorem below_nxt {B : Nat} {F F' : Nat → Prop} {a b c : World} (h : Below B a b) (k : Nxt B F F' b c) : Below B a c := h.trans k.2.1
set_option maxHeartbeats 4000000 in
theorem walk0 (A0 : Option Addr) (n0 c0 : Nat) (l0 : List Int) (A1 : Option Addr) (n1 c1 : Nat) (l1 : List Int) (same : Bool) (w : World) (r0 : Rd w 1 (ic .u8) A0 n0 l0) (_ : ∀ x ∈ l0, 0 ≤ x ∧ x ≤ 255) (r1 : Rd w 1 (ic .u8) A1 n1 l1) (_ : ∀ x ∈ l1, 0 ≤ x ∧ x ≤ 255) :
    Calls Try.prog 5 #[.slice A0 n0 c0, .slice A1 n1 c1, .bool same] w fun e w' => e = .returned (.bool true) ∧ Below w.heap.size w w' := by
  by_cases h0 : 2000 < n0
  · have e0 : decide (2000 < (n0 : Int)) = true := by simp; omega
    replace r0 := hide r0
    replace r1 := hide r1
    go_enter Try.func5, Try.ntmps5
    go_wp2_with (go_at_call 8; (with_reducible refine (awake_any _).mono ?_); rintro e w1 ⟨rfl, m1⟩
                 first
                 | have m2 := hide (ma.out.trans m1 (fun _ _ h => h))
                   clear m1
                 | have ma := hide m1
                   clear m1)
    go_ret
    exact ⟨rfl, m2.out.below (Nat.le_refl _) (fun _ h => h.elim)⟩
  · have e0 : decide (2000 < (n0 : Int)) = false := by simp; omega
    by_cases h1 : 2000 < n1
    · have e1 : decide (2000 < (n1 : Int)) = true := by simp; omega
      replace r0 := hide r0
      replace r1 := hide r1
      go_enter Try.func5, Try.ntmps5
      go_wp2_with (go_at_call 8; (with_reducible refine (awake_any _).mono ?_); rintro e w1 ⟨rfl, m1⟩
                   first
                   | have m2 := hide (ma.out.trans m1 (fun _ _ h => h))
                     clear m1
                   | have ma := hide m1
                     clear m1)
      go_ret
      exact ⟨rfl, m2.out.below (Nat.le_refl _) (fun _ h => h.elim)⟩
    · have e1 : decide (2000 < (n1 : Int)) = false := by simp; omega
      have hl0 := hide r0.1
      replace r0 := hide r0
      replace r1 := hide r1
      cases same with
      | false =>
        go_enter Try.func5, Try.ntmps5
        go_wp2_with (first
          | (go_at_call 8; (with_reducible refine (awake_any _).mono ?_); rintro e w1 ⟨rfl, m1⟩
             have L1 := m1.below (B := w.heap.size) (Nat.le_refl _) (fun _ h => h.elim)
             clear m1)
          | (go_at_call 9; (with_reducible refine (new_any _ w.heap.size L1.size).mono ?_); rintro e w2 ⟨b, F, rfl, k2, m2, -⟩
             have L2 := L1.trans (m2.below (B := w.heap.size) L1.size (fun _ h => h.elim))
             have hw1 := hide (write_0 w.heap.size b wd0 0 F ⟨#[97]⟩ A0 n0 c0 l0 w2 k2 (by omega) (by decide) (by decide) (r0.out.below L2) (by omega) NF.wd0)
             replace k2 := hide k2; replace L2 := hide L2; clear m2)
          | (go_at_call 11; (with_reducible refine hw1.out.mono ?_); rintro e w3 ⟨F3, rfl, k3, n3⟩; clear hw1
             have L3 := L2.out.trans n3.2.1
             have hw2 := hide (write_0 w.heap.size b _ _ F3 ⟨#[98]⟩ A1 n1 c1 l1 w3 k3 (by omega) (by decide) (by decide) (r1.out.below L3) (by omega) (NF.wd0.did _))
             replace k3 := hide k3; replace L3 := hide L3; clear n3)
          | (go_at_call 11; (with_reducible refine hw2.out.mono ?_); rintro e w4 ⟨F4, rfl, k4, n4⟩; clear hw2
             have L4 := L3.out.trans n4.2.1
             have hw3 := hide (rename_some w.heap.size b (d2 l0 l1) _ F4 ⟨#[97]⟩ ⟨#[98]⟩ l0 w4 k4 (by omega) (nf2 l0 l1 _) (by decide) (by decide) (by decide) (by decide) (by rw [s2]; rfl))
             replace k4 := hide k4; replace L4 := hide L4; clear n4)
          | (go_at_call 16; (with_reducible refine hw3.out.mono ?_); rintro e w5 ⟨F5, rfl, k5, n5⟩; clear hw3
             have L5 := L4.out.trans n5.2.1
             have hw4 := hide (rename_none w.heap.size b (d3 l0 l1 ⟨#[98]⟩) _ F5 ⟨#[110, 111, 110, 101]⟩ ⟨#[120]⟩ w5 k5 (by omega) (nf3 l0 l1 _ _) (by decide) (by decide) (by decide) (by decide) (by rw [s3, s2]; rfl))
             replace k5 := hide k5; replace L5 := hide L5; clear n5)
          | (go_at_call 16; (with_reducible refine hw4.out.mono ?_); rintro e w6 ⟨rfl, k6, n6⟩; clear hw4
             have L6 := L5.out.trans n6.2.1
             have hw5 := hide (remove_none w.heap.size b (tick (d3 l0 l1 ⟨#[98]⟩)) _ F5 ⟨#[110, 111, 110, 101]⟩ w6 k6 (by omega) (NF.tick (nf3 l0 l1 _) _) (by decide) (by decide) (by rw [tick_seen, s3, s2]; rfl))
             replace k6 := hide k6; replace L6 := hide L6; clear n6)
          | (go_at_call 17; (with_reducible refine hw5.out.mono ?_); rintro e w7 ⟨rfl, k7, n7⟩; clear hw5
             have L7 := L6.out.trans n7.2.1
             have hw6 := hide (read_0 w.heap.size b (tick (tick (d3 l0 l1 ⟨#[98]⟩))) _ F5 ⟨#[98]⟩ 5000 5000 rfl l0 w7 k7 (by omega) (NF.tick (NF.tick (nf3 l0 l1 _))) (by decide) (by decide) (by rw [tick_seen, tick_seen, s3, s2]; rfl) (by omega) (by rw [hl0.out]; omega))
             replace k7 := hide k7; replace L7 := hide L7; clear n7)
          | (go_at_call 12; (with_reducible refine hw6.out.mono ?_); rintro e w8 ⟨A8, c8, rfl, r8, -, k8, n8⟩; clear hw6
             have L8 := L7.out.trans n8.2.1
             have cs8 := conv_row r8
             have cs9 := conv_str (c := c0) (r0.out.below L8)
             have hw7 := hide (size_no w.heap.size b (d6 l0 l1 ⟨#[98]⟩) _ F5 ⟨#[97]⟩ w8 k8 (by decide) (by rw [s6, s3, s2]; rfl))
             have hw8 := hide (remove_some w.heap.size b (d6 l0 l1 ⟨#[98]⟩) _ F5 ⟨#[98]⟩ l0 w8 k8 (by omega) (nf6 l0 l1 _ _) (by decide) (by decide) (by rw [s6, s3, s2]; rfl))
             replace k8 := hide k8; replace L8 := hide L8; clear n8 r8)
          | (go_at_call 13; (with_reducible refine hw7.out.mono ?_); rintro e w9 ⟨rfl, rfl⟩; clear hw7)
          | (go_at_call 17; (with_reducible refine hw8.out.mono ?_); rintro e w10 ⟨F10, rfl, k10, n10⟩; clear hw8
             have L10 := L8.out.trans n10.2.1
             have hw9 := hide (size_no w.heap.size b (d7 l0 l1 ⟨#[98]⟩) _ F10 ⟨#[98]⟩ w10 k10 (by decide) (by rw [s7, s6, s3, s2]; rfl))
             have hw10 := hide (rename_none w.heap.size b (d7 l0 l1 ⟨#[98]⟩) _ F10 ⟨#[98]⟩ ⟨#[99]⟩ w10 k10 (by omega) ((nf6 l0 l1 _).did _ _) (by decide) (by decide) (by decide) (by decide) (by rw [s7, s6, s3, s2]; rfl))
             replace k10 := hide k10; replace L10 := hide L10; clear n10)
          | (go_at_call 13; (with_reducible refine hw9.out.mono ?_); rintro e w11 ⟨rfl, rfl⟩; clear hw9)
          | (go_at_call 16; (with_reducible refine hw10.out.mono ?_); rintro e w12 ⟨rfl, -, n12⟩; clear hw10
             have L12 := hide (L10.out.trans n12.2.1)
             clear n12))
        go_ret
        exact ⟨rfl, L12.out⟩
      | true =>
        go_enter Try.func5, Try.ntmps5
        go_wp2_with (first
          | (go_at_call 8; (with_reducible refine (awake_any _).mono ?_); rintro e w1 ⟨rfl, m1⟩
             have L1 := m1.below (B := w.heap.size) (Nat.le_refl _) (fun _ h => h.elim)
             clear m1)
          | (go_at_call 9; (with_reducible refine (new_any _ w.heap.size L1.size).mono ?_); rintro e w2 ⟨b, F, rfl, k2, m2, -⟩
             have L2 := L1.trans (m2.below (B := w.heap.size) L1.size (fun _ h => h.elim))
             have hw1 := hide (write_0 w.heap.size b wd0 0 F ⟨#[97]⟩ A0 n0 c0 l0 w2 k2 (by omega) (by decide) (by decide) (r0.out.below L2) (by omega) NF.wd0)
             replace k2 := hide k2; replace L2 := hide L2; clear m2)
          | (go_at_call 11; (with_reducible refine hw1.out.mono ?_); rintro e w3 ⟨F3, rfl, k3, n3⟩; clear hw1
             have L3 := L2.out.trans n3.2.1
             have hw2 := hide (write_0 w.heap.size b _ _ F3 ⟨#[98]⟩ A1 n1 c1 l1 w3 k3 (by omega) (by decide) (by decide) (r1.out.below L3) (by omega) (NF.wd0.did _))
             replace k3 := hide k3; replace L3 := hide L3; clear n3)
          | (go_at_call 11; (with_reducible refine hw2.out.mono ?_); rintro e w4 ⟨F4, rfl, k4, n4⟩; clear hw2
             have L4 := L3.out.trans n4.2.1
             have hw3 := hide (rename_some w.heap.size b (d2 l0 l1) _ F4 ⟨#[97]⟩ ⟨#[97]⟩ l0 w4 k4 (by omega) (nf2 l0 l1 _) (by decide) (by decide) (by decide) (by decide) (by rw [s2]; rfl))
             replace k4 := hide k4; replace L4 := hide L4; clear n4)
          | (go_at_call 16; (with_reducible refine hw3.out.mono ?_); rintro e w5 ⟨F5, rfl, k5, n5⟩; clear hw3
             have L5 := L4.out.trans n5.2.1
             have hw4 := hide (rename_none w.heap.size b (d3 l0 l1 ⟨#[97]⟩) _ F5 ⟨#[110, 111, 110, 101]⟩ ⟨#[120]⟩ w5 k5 (by omega) (nf3 l0 l1 _ _) (by decide) (by decide) (by decide) (by decide) (by rw [s3, s2]; rfl))
             replace k5 := hide k5; replace L5 := hide L5; clear n5)
          | (go_at_call 16; (with_reducible refine hw4.out.mono ?_); rintro e w6 ⟨rfl, k6, n6⟩; clear hw4
             have L6 := L5.out.trans n6.2.1
             have hw5 := hide (remove_none w.heap.size b (tick (d3 l0 l1 ⟨#[97]⟩)) _ F5 ⟨#[110, 111, 110, 101]⟩ w6 k6 (by omega) (NF.tick (nf3 l0 l1 _) _) (by decide) (by decide) (by rw [tick_seen, s3, s2]; rfl))
             replace k6 := hide k6; replace L6 := hide L6; clear n6)
          | (go_at_call 17; (with_reducible refine hw5.out.mono ?_); rintro e w7 ⟨rfl, k7, n7⟩; clear hw5
             have L7 := L6.out.trans n7.2.1
             have hw6 := hide (read_0 w.heap.size b (tick (tick (d3 l0 l1 ⟨#[97]⟩))) _ F5 ⟨#[97]⟩ 5000 5000 rfl l0 w7 k7 (by omega) (NF.tick (NF.tick (nf3 l0 l1 _))) (by decide) (by decide) (by rw [tick_seen, tick_seen, s3, s2]; rfl) (by omega) (by rw [hl0.out]; omega))
             replace k7 := hide k7; replace L7 := hide L7; clear n7)
          | (go_at_call 12; (with_reducible refine hw6.out.mono ?_); rintro e w8 ⟨A8, c8, rfl, r8, -, k8, n8⟩; clear hw6
             have L8 := L7.out.trans n8.2.1
             have cs8 := conv_row r8
             have cs9 := conv_str (c := c0) (r0.out.below L8)
             have hw7 := hide (size_yes w.heap.size b (d6 l0 l1 ⟨#[97]⟩) _ F5 ⟨#[97]⟩ l0.length w8 k8 (by decide) l0 (by rw [s6, s3, s2]; rfl) rfl)
             have hw8 := hide (remove_some w.heap.size b (d6 l0 l1 ⟨#[97]⟩) _ F5 ⟨#[97]⟩ l0 w8 k8 (by omega) (nf6 l0 l1 _ _) (by decide) (by decide) (by rw [s6, s3, s2]; rfl))
             replace k8 := hide k8; replace L8 := hide L8; clear n8 r8)
          | (go_at_call 13; (with_reducible refine hw7.out.mono ?_); rintro e w9 ⟨rfl, rfl⟩; clear hw7)
          | (go_at_call 17; (with_reducible refine hw8.out.mono ?_); rintro e w10 ⟨F10, rfl, k10, n10⟩; clear hw8
             have L10 := L8.out.trans n10.2.1
             have hw9 := hide (size_no w.heap.size b (d7 l0 l1 ⟨#[97]⟩) _ F10 ⟨#[97]⟩ w10 k10 (by decide) (by rw [s7, s6, s3, s2]; rfl))
             have hw10 := hide (rename_none w.heap.size b (d7 l0 l1 ⟨#[97]⟩) _ F10 ⟨#[97]⟩ ⟨#[99]⟩ w10 k10 (by omega) ((nf6 l0 l1 _).did _ _) (by decide) (by decide) (by decide) (by decide) (by rw [s7, s6, s3, s2]; rfl))
             replace k10 := hide k10; replace L10 := hide L10; clear n10)
          | (go_at_call 13; (with_reducible refine hw9.out.mono ?_); rintro e w11 ⟨rfl, rfl⟩; clear hw9)
          | (go_at_call 16; (with_reducible refine hw10.out.mono ?_); rintro e w12 ⟨rfl, -, n12⟩; clear hw10
             have L12 := hide (L10.out.trans n12.2.1)
             clear n12))
        go_ret
        exact ⟨rfl, L12.out⟩
end Go.Proofs.Ytmlnieblgkhjnaa.worldNames
