/-
  The walk of TaskEnds. No condition.
-/
import Derived.Test.YtabkplmpkdbchaaPlain
import Derived.Test.YtabkplmpkdbchaaOpen
namespace Go.Proofs.Ytabkplmpkdbchaa.taskEnds
open Go.ChangeShapes Go.WideShapes Go.ChangeAt Go.RowKit Go.Deep
set_option linter.unusedVariables false

/-- The first task of a row, its tag. -/
theorem tag0 {F : Nat → Prop} {w : World} {g n c : Nat} {l : List T} (h : RO F w (.slice (some ⟨g, 0, none⟩) n c) l) (h0 : 0 < l.length) : w.cell? ⟨g, 1, none⟩ = some (.int .u32 (gi l 0).tag) := by
  have hn : l.length = n := (h.1.rd enc_len rfl).1
  obtain ⟨ad, e, -, c1, -, -⟩ := (h.1.rd enc_len rfl).task 0 (by omega)
  obtain rfl := Option.some.inj e
  exact c1

set_option maxRecDepth 100000 in
set_option maxHeartbeats 2000000 in
theorem walk0 (A : Option Addr) (len cap : Nat) (attrs : List Int) (w : World) (hr : Rd w 1 (ic .u8) A len attrs) (hb : ∀ a ∈ attrs, 0 ≤ a ∧ a ≤ 255) :
    Calls Try.prog 6 #[.slice A len cap] w fun e w' => e = .returned (.bool true) ∧ Below w.heap.size w w' := by
  obtain ⟨B, hB⟩ : ∃ B, B = w.heap.size := ⟨_, rfl⟩
  have haw := awake_any w
  replace hr := hide hr
  replace hb := hide hb
  replace hB := hide hB
  replace haw := hide haw
  go_enter Try.func6, Try.ntmps6
  go_wp2_with (first
    | (go_at_call 9; (with_reducible refine haw.out.mono ?_); rintro e w1 ⟨rfl, m1⟩; replace m1 := hide m1)
    | (go_at_call 15; (with_reducible refine (new_law w1 B (by have h1 := m1.out.size; have h2 := hB.out; omega)).mono ?_); rintro e w2 ⟨b, F, rfl, hs, m2⟩; replace hs := hide hs; replace m2 := hide m2))
  have hP : ∃ F, SL B w2 b (entL attrs 0) (-1) F ∧ Below B w w2 := ⟨F, hs.out, (m1.out.trans m2.out (by simp)).below (by have h2 := hB.out; omega) (by simp)⟩
  clear hs m1 m2 haw
  replace hP := hide hP
  go_loopw [4, 5, 6, 7] (fun u v _ _ wr => ∃ k m : Nat, k ≤ len ∧ k ≤ 40 ∧ m ≤ 16 ∧ v = .int .i64 k ∧ u = .int .i64 m ∧ Hid (m = min k 16 ∧ ∃ F, SL B wr b (entL attrs (min k 16)) (-1) F ∧ Below B w wr)) (fun _ v _ _ _ => len - (intOf v).toNat)
  case atStart => exact ⟨0, 0, by omega, by omega, by omega, rfl, rfl, hide ⟨by omega, hP.out⟩⟩
  case round =>
    obtain ⟨k, m, hk, hk40, hm16, rfl, rfl, hR⟩ := hrel
    clear hP
    by_cases hlt : k < len ∧ k < 40
    · obtain ⟨hlt, hlt40⟩ := hlt
      obtain ⟨hmk, F, hs, hbl⟩ := hR.out
      obtain ⟨ad, rfl, hck⟩ := hr.out.int k hlt
      have hckr : wr.cell? (ad.add k) = some (.int .u8 (gi attrs k)) := (hbl.cell (by rw [hB.out]; exact World.block_lt_of_cell? w _ hck)).trans hck
      have hbk := hb.out (gi attrs k) (by rw [gi_eq attrs k (by rw [hr.out.1]; exact hlt)]; exact List.getElem_mem _)
      obtain ⟨q0, q1⟩ := hbk
      have e3 : IntKind.u32.wrap (k : Int) = (k : Int) := IntWalk.u32_in _ (by omega)
      have e4 : (gi attrs k).tmod 3 = gi attrs k % 3 := Int.tmod_eq_emod_of_nonneg q0
      have hcall : ∀ st : Int, st = (if k < 16 then 0 else 40) → Calls Try.prog 12 #[.pointer (some ⟨b, 0, none⟩), .agg #[.int .i64 0, .int .u32 (k : Int), .int .u8 (gi attrs k % 3), .bool false]] wr fun e w' => e = .returned (.tuple #[.int .u8 st, .int .i64 0]) ∧ Hid (∃ F, SL B w' b (entL attrs (min (k + 1) 16)) (-1) F ∧ Below B w w') := fun st hst =>
        (enter_law B b ⟨0, k, gi attrs k % 3, false⟩ (entL attrs (min k 16)) (-1) F wr (by rw [entL_length]; omega) hs).mono fun e w' ⟨F', he, h1, h2⟩ => by
          rw [entL_ent attrs k] at he h1
          exact ⟨by rw [hst]; exact he, hide ⟨F', h1, hbl.trans h2.2.1⟩⟩
      clear hs hbl
      clear hck
      by_cases h16 : k < 16
      · have hc := hcall 0 (by rw [if_pos h16])
        have hm1 : m = k := by omega
        subst hm1
        have hmn : m + 1 = min (m + 1) 16 := by omega
        replace hc := hide hc
        replace hmn := hide hmn
        clear hcall hR hmk
        have d16 : decide ((m : Int) < 16) = true := by simp; omega
        go_wp2_with (go_at_call 12; (with_reducible refine hc.out.mono ?_); rintro e w2 ⟨rfl, h2⟩)
        go_roundw
        case rel => exact ⟨m + 1, m + 1, by omega, by omega, by omega, by go_num, by go_num, hide ⟨hmn.out, h2.out⟩⟩
        case measure => simp [intOf]; omega
      · have hc := hcall 40 (by rw [if_neg h16])
        have hmn : m = min (k + 1) 16 := by omega
        replace hc := hide hc
        replace hmn := hide hmn
        clear hcall hR hmk
        have d16 : decide ((k : Int) < 16) = false := by simp; omega
        go_wp2_with (go_at_call 12; (with_reducible refine hc.out.mono ?_); rintro e w2 ⟨rfl, h2⟩)
        go_roundw
        case rel => exact ⟨k + 1, m, by omega, by omega, by omega, by go_num, rfl, hide ⟨hmn.out, h2.out⟩⟩
        case measure => simp [intOf]; omega
    · have hQ : ∃ F l, m = l.length ∧ Fresh l ∧ SL B wr b l (-1) F ∧ Below B w wr := by
        obtain ⟨hmk, F, hs, hbl⟩ := hR.out
        exact ⟨F, _, by rw [entL_length]; exact hmk, entL_fresh _ _, hs, hbl⟩
      have hcases : k = len ∨ (k < len ∧ k = 40) := by omega
      replace hQ := hide hQ
      clear hR hlt
      rcases hcases with rfl | ⟨hk1, rfl⟩
      all_goals
        obtain ⟨w0, hw0⟩ : ∃ w0, w0 = wr := ⟨_, rfl⟩
        subst hw0
        go_wp2_with fail
        go_loopw [4, 8] (fun u _ wr => ∃ m : Nat, m ≤ 16 ∧ u = .int .i64 m ∧ Hid (∃ F l, m = l.length ∧ Fresh l ∧ SL B wr b l (-1) F ∧ Below B w wr)) (fun u _ _ => (intOf u).toNat)
        case atStart => exact ⟨m, hm16, rfl, hQ⟩
        case round =>
          obtain ⟨n, hn16, rfl, hR⟩ := hrel
          clear hQ
          obtain ⟨F, l, hnl, hfr, hs, hbl⟩ := hR.out
          clear hR
          by_cases hn0 : n = 0
          · subst hn0
            replace hs := hide hs
            replace hbl := hide hbl
            replace hnl := hide hnl
            replace hfr := hide hfr
            go_wp2_with (go_at_call 11; (with_reducible refine (tasks_law B b l (-1) F _ (by rw [← hnl.out]; decide) hs.out).mono ?_); rintro e w3 ⟨v1, rfl, r1, hs3, n3⟩; obtain ⟨A1, c1, rfl⟩ := r1.slice; rw [← hnl.out] at r1 ⊢
                         replace r1 := hide r1; replace hs3 := hide hs3; replace n3 := hide n3)
            go_ret
            exact ⟨rfl, by rw [← hB.out]; exact hbl.out.trans n3.out.2.1⟩
          · have hn1 : 0 < n := by omega
            have hpos := ready_ne (l := l) (by omega) fun i hi => (hfr.at_ i hi).2
            obtain ⟨i, hi, hm, hg⟩ := ready_mem hpos
            obtain ⟨l1, l2, s1, s2, s3, hfr2, hl2, hl1⟩ := ends_step hfr i hi hm
            rw [← hg] at s1 s2 s3
            have hrl : (readyL l (-1)).length ≤ l.length := readyTo_length l (-1) l.length
            clear hm hg hi hfr
            generalize hrr : readyL l (-1) = rr at *
            have hz : ((rr.length : Int) == 0) = false := by simp; intro h; rw [h] at hpos; simp at hpos
            replace hs := hide hs
            replace hbl := hide hbl
            replace hnl := hide hnl
            replace hrr := hide hrr
            replace s1 := hide s1; replace s2 := hide s2; replace s3 := hide s3; replace hl1 := hide hl1; replace hl2 := hide hl2; replace hfr2 := hide hfr2
            have e6 : IntKind.i64.wrap ((n : Int) - 1) = ((n - 1 : Nat) : Int) := by rw [IntWalk.i64_in _ (by omega)]; omega
            go_wp2_with (first
              | (go_at_call 11; (with_reducible refine (tasks_law B b l (-1) F _ (by rw [← hnl.out]; omega) hs.out).mono ?_); rintro e w3 ⟨v1, rfl, r1, hs3, n3⟩; obtain ⟨A1, c1, rfl⟩ := r1.slice; rw [← hnl.out] at r1 ⊢
                 replace r1 := hide r1; replace hs3 := hide hs3; replace n3 := hide n3)
              | (go_at_call 16; (with_reducible refine (ready_law B b l (-1) F _ (by rw [← hnl.out]; omega) hs3.out).mono ?_); rw [hrr.out]; rintro e w4 ⟨v2, rfl, r2, hs4, n4⟩; obtain ⟨g, c9, rfl, -⟩ := r2.1.some_ hpos
                 have t4 := tag0 r2 hpos
                 replace r2 := hide r2; replace hs4 := hide hs4; replace n4 := hide n4)
              | (go_at_call 17; have hst := start_law B b 0 (gi rr 0).tag l (-1) F _ (by rw [← hnl.out]; omega) hs4.out; rw [s1.out] at hst; (with_reducible refine hst.mono ?_); clear hst; rintro e w5 ⟨F5, rfl, hs5, n5⟩
                 have r5 := r2.out.nxt n5
                 have t5 := tag0 r5 hpos
                 replace r5 := hide r5; replace hs5 := hide hs5; replace n5 := hide n5)
              | (go_at_call 17; have hst := start_law B b 0 (gi rr 0).tag l1 (-1) F5 _ (by rw [hl1.out, ← hnl.out]; omega) hs5.out; rw [s2.out] at hst; (with_reducible refine hst.mono ?_); clear hst; rintro e w6 ⟨F6, rfl, hs6, n6⟩
                 have r6 := r5.out.nxt n6
                 have t6 := tag0 r6 hpos
                 replace r6 := hide r6; replace hs6 := hide hs6; replace n6 := hide n6)
              | (go_at_call 18; have hst := end_law B b 0 (gi rr 0).tag l1 (-1) F6 _ (by rw [hl1.out, ← hnl.out]; omega) hs6.out; rw [s3.out] at hst; (with_reducible refine hst.mono ?_); clear hst; rintro e w7 ⟨F7, rfl, hs7, n7⟩
                 replace hs7 := hide hs7; replace n7 := hide n7))
            go_roundw
            case rel => exact ⟨n - 1, by omega, rfl, hide ⟨F7, l2, by have h1 := hl2.out; have h2 := hnl.out; omega, hfr2.out, hs7.out, ((((hbl.out.trans n3.out.2.1).trans n4.out.2.1).trans n5.out.2.1).trans n6.out.2.1).trans n7.out.2.1⟩⟩
            case measure => simp [intOf]; omega
end Go.Proofs.Ytabkplmpkdbchaa.taskEnds
