/-
  For every script of acts, TaskPlays returns true: its walk. Condition: the script reads as a list of acts whose numbers are within their kinds.
-/
import Derived.Test.YtabkplmpkdbchaaActs
namespace Go.Proofs.Ytabkplmpkdbchaa.taskPlays
open Go.RowKit
set_option linter.unusedVariables false

/-- A call of the script: its kind, its nexus, its tag, its attribute. -/
structure Ac where
  kd : Int
  n : Int
  tag : Int
  at_ : Int
instance : Inhabited Ac := ⟨⟨0, 0, 0, 0⟩⟩
def encA (a : Ac) : List Value := [.int .u8 a.kd, .int .i64 a.n, .int .u32 a.tag, .int .u8 a.at_]
def WfA (a : Ac) : Prop := (0 ≤ a.kd ∧ a.kd ≤ 255) ∧ (0 ≤ a.tag ∧ a.tag ≤ 4294967295) ∧ (0 ≤ a.at_ ∧ a.at_ ≤ 255)

section
variable {B : Nat} {E : Nat → Prop} {b c : Nat} {w W : World} {l : List T} {a : Int}
/-- Both are empty at first. -/
theorem start {w wa wb wc : World} (m0 : Mod (fun _ => False) w wa) {b c : Nat} (hs : S wb b [] (-1) (Plus (fun _ => False) wa wb)) (m1 : Mod (fun _ => False) wa wb) (hr : RS wc c [] (-1) (Plus (fun _ => False) wb wc)) (m2 : Mod (fun _ => False) wb wc) :
    PT w.heap.size (fun _ => False) b c w wc [] (-1) [] (-1) := by
  have z0 := m0.size; have z1 := m1.size; have z2 := m2.size
  refine ⟨_, _, hs.mod m2 (by simp), hr, ?_, ?_, ?_, by simp, (((m0.trans m1 (by simp)).trans m2 (by simp)).below (Nat.le_refl _) (by simp)), by omega⟩
  · rintro k (hk | ⟨_, hk⟩) (hg | ⟨hg, _⟩)
    · exact hk
    · exact hk
    · exact hg
    · omega
  · rintro k (hk | ⟨hk, hk'⟩)
    · exact hk.elim
    · exact ⟨by omega, by omega, fun h => h⟩
  · rintro k (hk | ⟨hk, hk'⟩)
    · exact hk.elim
    · exact ⟨by omega, by omega, fun h => h⟩
theorem tasks_pt (h : PT B (fun _ => False) b c w W l a l a) (hl : Okl l) : Calls Try.prog 11 #[.pointer (some ⟨b, 0, none⟩)] W fun e W' => ∃ v, e = .returned v ∧ Row W' 26 4 enc v l ∧ PT B (fun _ => False) b c w W' l a l a ∧ Mod (fun _ => False) W W' := by
  obtain ⟨F, G, hs, _⟩ := id h
  exact (tasks_some b l a F W (Nat.le_trans hl.1 (by decide)) hs).mono fun e W' ⟨v, he, h1, h2, _⟩ => ⟨v, he, h1, h.quiet h2, h2⟩
theorem ready_pt (h : PT B (fun _ => False) b c w W l a l a) (hl : Okl l) : Calls Try.prog 16 #[.pointer (some ⟨b, 0, none⟩)] W fun e W' => ∃ v, e = .returned v ∧ Row W' 26 4 enc v (readyL l a) ∧ PT B (fun _ => False) b c w W' l a l a ∧ Mod (fun _ => False) W W' := by
  obtain ⟨F, G, hs, _⟩ := id h
  exact (ready_some b l a F W (Nat.le_trans hl.1 (by decide)) hs).mono fun e W' ⟨v, he, h1, h2, _⟩ => ⟨v, he, h1, h.quiet h2, h2⟩
theorem rready_pt (h : PT B (fun _ => False) b c w W l a l a) (hl : Okl l) : Calls Try.prog 25 #[.pointer (some ⟨c, 0, none⟩)] W fun e W' => ∃ v, e = .returned v ∧ Row W' 67 4 encR v (readyL l a) ∧ PT B (fun _ => False) b c w W' l a l a ∧ Mod (fun _ => False) W W' := by
  obtain ⟨F, G, _, hr, _⟩ := id h
  exact (rready_some c l a G W (Nat.le_trans hl.1 (by decide)) hr).mono fun e W' ⟨v, he, h1, h2, _⟩ => ⟨v, he, h1, h.quiet h2, h2⟩
theorem stands_pt (h : PT B (fun _ => False) b c w W l a l a) : Calls Try.prog 20 #[.pointer (some ⟨b, 0, none⟩)] W fun e W' => e = .returned (.int .i64 a) ∧ W = W' := by
  obtain ⟨F, G, hs, _⟩ := id h
  exact stands_some b l a F W hs
theorem ready_ok (h : Okl l) : Okl (readyL l a) := by
  refine ⟨Nat.le_trans (readyTo_length l a l.length) h.1, fun t ht => ?_⟩
  simp only [readyL, readyTo, List.mem_map, List.mem_filter, List.mem_range] at ht
  obtain ⟨i, ⟨hi, -⟩, rfl⟩ := ht
  rw [gi_eq l i hi]
  exact h.2 _ (List.getElem_mem _)
end

set_option maxRecDepth 100000 in
set_option maxHeartbeats 8000000 in
theorem walk0 (A : Option Addr) (len cap : Nat) (s : List Ac) (w : World) (hrd : Rd w 4 encA A len s) (hwf : ∀ a ∈ s, WfA a) :
    Calls Try.prog 8 #[.slice A len cap] w fun e w' => e = .returned (.bool true) ∧ Below w.heap.size w w' := by
  replace hrd := hide hrd
  replace hwf := hide hwf
  go_enter Try.func8, Try.ntmps8
  go_wp2_with (first
    | (go_at_call 9; refine (awake_any w).mono ?_; rintro e wa ⟨rfl, m0⟩; replace m0 := hide m0)
    | (go_at_call 15; refine (new_any wa).mono ?_; rintro e wb ⟨rfl, hs, m1⟩; replace hs := hide hs; replace m1 := hide m1)
    | (go_at_call 22; refine (rnew_any wb).mono ?_; rintro e wc ⟨rfl, hr, m2⟩; replace hr := hide hr; replace m2 := hide m2))
  have hp0 : Hid (∃ l a, PT w.heap.size (fun _ => False) wa.heap.size wb.heap.size w wc l a l a ∧ Okl l) := hide ⟨[], -1, start m0.out hs.out m1.out hr.out m2.out, by simp [Okl]⟩
  generalize wa.heap.size = b at *
  generalize wb.heap.size = c at *
  clear hs hr m0 m1 m2
  go_loopw [5] (fun i wr => ∃ k : Nat, k ≤ len ∧ k ≤ 300 ∧ i = .int .i64 k ∧ Hid (∃ l a, PT w.heap.size (fun _ => False) b c w wr l a l a ∧ Okl l)) (fun i _ => len - (intOf i).toNat)
  case atStart => exact ⟨0, by omega, by omega, rfl, hp0⟩
  case round =>
    obtain ⟨k, hk, hk300, rfl, hpr⟩ := hrel
    clear hp0
    by_cases hlt : k < len ∧ k < 300
    · obtain ⟨hlt, hlt300⟩ := hlt
      obtain ⟨ad, rfl, hcell⟩ := hrd.out.2 k hlt
      have hwk := hwf.out (gi s k) (by rw [gi_eq s k (by rw [hrd.out.1]; exact hlt)]; exact List.getElem_mem _)
      obtain ⟨l, a, hpi, hok⟩ := hpr.out
      clear hpr
      have hbel := hpi.below
      have hc0 : wr.cell? (ad.add (k * 4)) = _ := (hbel.cell (World.block_lt_of_cell? w _ (hcell 0 _ rfl))).trans (hcell 0 _ rfl)
      have hc1 := fld ((hbel.cell (World.block_lt_of_cell? w _ (hcell 1 _ rfl))).trans (hcell 1 _ rfl)) (by decide)
      have hc2 := fld ((hbel.cell (World.block_lt_of_cell? w _ (hcell 2 _ rfl))).trans (hcell 2 _ rfl)) (by decide)
      have hc3 := fld ((hbel.cell (World.block_lt_of_cell? w _ (hcell 3 _ rfl))).trans (hcell 3 _ rfl)) (by decide)
      clear hcell hbel
      obtain ⟨⟨g0, g1⟩, ⟨g2, g3⟩, ⟨g4, g5⟩⟩ := hwk
      generalize gi s k = x at *
      obtain ⟨kd, n, tag, at_⟩ := x
      dsimp only at *
      have k1 := both_yes w.heap.size b c w wr.drew l a kd n tag at_ hpi.drew hok g0 g1 g2 g3 g4 g5
      have hok1 : Okl (act l a kd n tag at_).1 := act_ok hok g4
      generalize act l a kd n tag at_ = r at *
      obtain ⟨l1, a1⟩ := r
      dsimp only at k1 hok1
      obtain ⟨n1, hn1⟩ : ∃ n1, n1 = l1.length := ⟨_, rfl⟩
      have hokr := ready_ok (a := a1) hok1
      obtain ⟨rl, hrl⟩ : ∃ rl, rl = readyL l1 a1 := ⟨_, rfl⟩
      rw [← hrl] at hokr
      obtain ⟨n2, hn2⟩ : ∃ n2, n2 = rl.length := ⟨_, rfl⟩
      replace k1 := hide k1; replace hok1 := hide hok1; replace hn1 := hide hn1; replace hokr := hide hokr; replace hrl := hide hrl; replace hn2 := hide hn2; replace hok := hide hok; replace hpi := hide hpi
      go_wp2_with fail
      go_region_with (first
        | (go_at_call 23; (with_reducible refine k1.out.mono ?_); rintro e w1 ⟨rfl, hp1⟩
           obtain ⟨A1, cap1, y0, y1, -, y3, -⟩ := hp1.cells
           rw [← hn1.out] at y0 y3
           replace y3 := hide y3; replace hp1 := hide hp1)
        | (go_at_call 11; (with_reducible refine (tasks_pt hp1.out hok1.out).mono ?_); rintro e w2 ⟨v2, rfl, r2, hp2, m2⟩
           obtain ⟨A2, c2, hv2, -, -⟩ := r2.slice
           rw [← hn1.out] at hv2
           subst hv2
           have z0 := m2.cell y0 (fun h => h)
           have hsame := same_yes A2 A1 n1 c2 cap1 l1 w2 (r2.rd enc_len rfl) ((y3.out.mod m2 (by simp)).rd encR_len rfl) hok1.out.2 (by have := hok1.out.1; have := hn1.out; omega)
           replace hsame := hide hsame; replace hp2 := hide hp2; replace m2 := hide m2; replace r2 := hide r2)
        | (go_at_call 24; (with_reducible refine hsame.out.mono ?_); rintro e w3 ⟨rfl, m3⟩
           have hp3 := hide (hp2.out.quiet m3)
           replace m3 := hide m3)
        | (go_at_call 16; (with_reducible refine (ready_pt hp3.out hok1.out).mono ?_); rintro e w4 ⟨v4, rfl, r4, hp4, m4⟩
           obtain ⟨A4, c4, hv4, -, -⟩ := r4.slice
           rw [← hrl.out, ← hn2.out] at hv4
           subst hv4
           replace hp4 := hide hp4; replace m4 := hide m4; replace r4 := hide r4)
        | (go_at_call 25; (with_reducible refine (rready_pt hp4.out hok1.out).mono ?_); rintro e w5 ⟨v5, rfl, r5, hp5, m5⟩
           obtain ⟨A5, c5, hv5, -, -⟩ := r5.slice
           rw [← hrl.out, ← hn2.out] at hv5
           subst hv5
           have hsame2 := same_yes A4 A5 n2 c4 c5 rl w5 (by rw [hrl.out]; exact (r4.out.mod m5 (by simp)).rd enc_len rfl) (by rw [hrl.out]; exact r5.rd encR_len rfl) hokr.out.2 (by have := hokr.out.1; have := hn2.out; omega)
           replace hsame2 := hide hsame2; replace hp5 := hide hp5; replace m5 := hide m5; replace r5 := hide r5)
        | (go_at_call 24; (with_reducible refine hsame2.out.mono ?_); rintro e w6 ⟨rfl, m6⟩
           have hp6 := hp5.out.quiet m6
           obtain ⟨A6, cap6, -, u1, -, -, -⟩ := hp6.cells
           replace hp6 := hide hp6; replace m6 := hide m6)
        | (go_at_call 20; (with_reducible refine (stands_pt hp6.out).mono ?_); rintro e w7 ⟨rfl, rfl⟩))
      all_goals
        go_wp2_with fail
        go_roundw
        case rel => exact ⟨k + 1, by omega, by omega, by go_num, hide ⟨_, _, hp6.out, hok1.out⟩⟩
        case measure => simp [intOf]; omega
    · have hcases : k = len ∨ (k < len ∧ k = 300) := by omega
      have hbel : Below w.heap.size w wr := by obtain ⟨_, _, h, _⟩ := hpr.out; exact h.below
      replace hbel := hide hbel
      clear hpr
      rcases hcases with rfl | ⟨hk1, rfl⟩
      all_goals
        go_wp2_with fail
        go_ret
        exact ⟨rfl, hbel.out⟩
end Go.Proofs.Ytabkplmpkdbchaa.taskPlays
