/-
  The walk of TaskACA. No condition.
-/
import Derived.Test.YtabkplmpkdbchaaPlaca
import Derived.Test.YtabkplmpkdbchaaEqw
import Derived.Test.YtabkplmpkdbchaaOpen
namespace Go.Proofs.Ytabkplmpkdbchaa.taskACA
open Go.ChangeShapes Go.WideShapes Go.ChangeAt Go.RowKit Go.Deep
set_option linter.unusedVariables false

theorem tag0 {F : Nat → Prop} {w : World} {g n c : Nat} {l : List T} (h : RO F w (.slice (some ⟨g, 0, none⟩) n c) l) (h0 : 0 < l.length) : w.cell? ⟨g, 1, none⟩ = some (.int .u32 (gi l 0).tag) := by
  have hn : l.length = n := (h.1.rd enc_len rfl).1
  obtain ⟨ad, e, -, c1, -, -⟩ := (h.1.rd enc_len rfl).task 0 (by omega)
  obtain rfl := Option.some.inj e
  exact c1
theorem at_gi {w : World} {A : Option Addr} {n : Nat} {l : List T} (r : Rd w 4 Ytabkplmpkdbchaa.enc A n l) (k : Nat) (hk : k < n) : ∃ ad, A = some ad ∧ ∀ q j u, (Ytabkplmpkdbchaa.enc (gi l k))[j]? = some u → (w.drewN q).cell? ((ad.add (k * 4)).add j) = some u := by
  obtain ⟨ad, e, hc⟩ := r.elem k hk
  exact ⟨ad, e, fun q => hc⟩

set_option maxRecDepth 100000 in
set_option maxHeartbeats 4000000 in
theorem walk0 (A : Option Addr) (len cap : Nat) (attrs : List Int) (nexus : Int) (w : World) (hr : Rd w 1 (ic .u8) A len attrs) (hb : ∀ a ∈ attrs, 0 ≤ a ∧ a ≤ 255) (h0 : 0 ≤ nexus ∧ nexus ≤ 255) :
    Calls Try.prog 7 #[.slice A len cap, .int .u8 nexus] w fun e w' => e = .returned (.bool true) ∧ Below w.heap.size w w' := by
  obtain ⟨B, hB⟩ : ∃ B, B = w.heap.size := ⟨_, rfl⟩
  have haw := awake_any w
  have q1 : IntKind.i64.wrap nexus = nexus := IntWalk.i64_in _ (by omega)
  have q2 : nexus.tmod 8 = nexus % 8 := Int.tmod_eq_emod_of_nonneg h0.1
  have hkx : 0 ≤ nexus % 8 ∧ nexus % 8 < 8 := by omega
  generalize hnn : nexus % 8 = kx at *
  obtain ⟨hk0, hk8⟩ := hkx
  replace hr := hide hr
  replace hb := hide hb
  replace hB := hide hB
  replace haw := hide haw
  replace hnn := hide hnn
  replace h0 := hide h0
  go_enter Try.func7, Try.ntmps7
  go_wp2_with (first
    | (go_at_call 9; (with_reducible refine haw.out.mono ?_); rintro e w1 ⟨rfl, m1⟩; replace m1 := hide m1)
    | (go_at_call 15; (with_reducible refine (new_law w1 B (by have h1 := m1.out.size; have h2 := hB.out; omega)).mono ?_); rintro e w2 ⟨b, F, rfl, hs, m2⟩; replace hs := hide hs; replace m2 := hide m2))
  have hP : ∃ F, SL B w2 b (acaL attrs 0) (-1) F ∧ Below B w w2 := ⟨F, hs.out, (m1.out.trans m2.out (by simp)).below (by have h2 := hB.out; omega) (by simp)⟩
  clear hs m1 m2 haw
  replace hP := hide hP
  go_loopw [7] (fun v wr => ∃ k : Nat, k ≤ len ∧ k ≤ 10 ∧ v = .int .i64 k ∧ Hid (∃ F, SL B wr b (acaL attrs k) (-1) F ∧ Below B w wr)) (fun v _ => len - (intOf v).toNat)
  case atStart => exact ⟨0, by omega, by omega, rfl, hP⟩
  case round =>
    obtain ⟨k, hk, hk10, rfl, hR⟩ := hrel
    clear hP
    by_cases hlt : k < len ∧ k < 10
    · obtain ⟨hlt, hlt10⟩ := hlt
      obtain ⟨F, hs, hbl⟩ := hR.out
      obtain ⟨ad, rfl, hck⟩ := hr.out.int k hlt
      have hckr : wr.cell? (ad.add k) = some (.int .u8 (gi attrs k)) := (hbl.cell (by rw [hB.out]; exact World.block_lt_of_cell? w _ hck)).trans hck
      have hbk := hb.out (gi attrs k) (by rw [gi_eq attrs k (by rw [hr.out.1]; exact hlt)]; exact List.getElem_mem _)
      obtain ⟨p0, p1⟩ := hbk
      have e2 : (k : Int).tmod 8 = (k : Int) % 8 := Int.tmod_eq_emod_of_nonneg (by omega)
      have e3 : IntKind.u32.wrap (k : Int) = (k : Int) := IntWalk.u32_in _ (by omega)
      have e4 : (gi attrs k).tmod 3 = gi attrs k % 3 := Int.tmod_eq_emod_of_nonneg p0
      have hc : Calls Try.prog 12 #[.pointer (some ⟨b, 0, none⟩), .agg #[.int .i64 ((k : Int) % 8), .int .u32 (k : Int), .int .u8 (gi attrs k % 3), .bool false]] wr fun e w' => ∃ x y, e = .returned (.tuple #[x, y]) ∧ Hid (∃ F, SL B w' b (acaL attrs (k + 1)) (-1) F ∧ Below B w w') :=
        (enter_law B b ⟨(k : Int) % 8, k, gi attrs k % 3, false⟩ (acaL attrs k) (-1) F wr (by rw [acaL_length]; omega) hs).mono fun e w' ⟨F', he, h1, h2⟩ => by
          rw [acaL_ent attrs k hlt10] at h1
          exact ⟨_, _, he, hide ⟨F', h1, hbl.trans h2.2.1⟩⟩
      clear hs hbl hck hR
      replace hc := hide hc
      go_wp2_with (go_at_call 12; (with_reducible refine hc.out.mono ?_); rintro e w2 ⟨x, y, rfl, h2⟩)
      go_roundw
      case rel => exact ⟨k + 1, by omega, by omega, by go_num, h2⟩
      case measure => simp [intOf]; omega
    · have hQ : ∃ F l, Few l ∧ SL B wr b l (-1) F ∧ Below B w wr := by
        obtain ⟨F, hs, hbl⟩ := hR.out
        exact ⟨F, _, acaL_few _ _ hk10, hs, hbl⟩
      have hcases : k = len ∨ (k < len ∧ k = 10) := by omega
      clear hR hlt
      obtain ⟨F, l, hfew, hs, hbl⟩ := hQ
      have hl1000 : l.length ≤ 1000 := Nat.le_trans hfew.1 (by decide)
      have hl16 : l.length ≤ 16 := Nat.le_trans hfew.1 (by decide)
      have hl1 : (l ++ [xT kx]).length ≤ 1000 := by have := hfew.1; simp; omega
      obtain ⟨n, hn⟩ : ∃ n, n = l.length := ⟨_, rfl⟩
      obtain ⟨rb, hrb⟩ : ∃ rb, rb = readyL l (-1) := ⟨_, rfl⟩
      obtain ⟨nb, hnb⟩ : ∃ nb, nb = rb.length := ⟨_, rfl⟩
      have hnb10 : nb ≤ 10 := by rw [hnb, hrb]; exact Nat.le_trans (readyTo_length l (-1) l.length) hfew.1
      have f1 := est1 (k := kx) ⟨hk0, hk8⟩
      have f2 := est2 (k := kx) ⟨hk0, hk8⟩
      have f3 := hfew.ready hk0
      have f4 := hfew.ent1 ⟨hk0, hk8⟩
      have f5 := hfew.ent2 ⟨hk0, hk8⟩
      have f6 := hfew.ent3 ⟨hk0, hk8⟩
      have f7 := hfew.ready3 hk0
      have f8 := hfew.gone (k := kx)
      have f9 := hfew.left (k := kx)
      replace hs := hide hs; replace hbl := hide hbl; replace hfew := hide hfew; replace hl1000 := hide hl1000; replace hl16 := hide hl16; replace hl1 := hide hl1
      replace hn := hide hn; replace hrb := hide hrb; replace hnb := hide hnb
      replace f1 := hide f1; replace f2 := hide f2; replace f3 := hide f3; replace f4 := hide f4; replace f5 := hide f5; replace f6 := hide f6; replace f7 := hide f7; replace f8 := hide f8; replace f9 := hide f9
      obtain ⟨w0, hw0⟩ : ∃ w0, w0 = wr := ⟨_, rfl⟩
      subst hw0
      rcases hcases with rfl | ⟨hk1, rfl⟩
      all_goals
        go_wp2_with (first
          | (go_at_call 16; have hh := ready_law B b l (-1) F w0 hl1000.out hs.out; rw [← hrb.out] at hh; (with_reducible refine hh.mono ?_); clear hh; rintro e w8 ⟨v8, rfl, r8, hs8, n8⟩; obtain ⟨A8, c8, rfl⟩ := r8.slice; rw [← hnb.out] at r8 ⊢
             replace r8 := hide r8; replace hs8 := hide hs8; replace n8 := hide n8)
          | (go_at_call 11; (with_reducible refine (tasks_law B b l (-1) F w8 hl1000.out hs8.out).mono ?_); rintro e w9 ⟨v9, rfl, r9, hs9, n9⟩; obtain ⟨A9, c9, rfl⟩ := r9.slice; rw [← hn.out] at r9 ⊢
             have r8a := hide (r8.out.nxt n9)
             replace r9 := hide r9; replace hs9 := hide hs9; replace n9 := hide n9)
          | (go_at_call 19; have hh := establish_law B b kx l (-1) F w9 hs9.out; rw [f1.out] at hh; (with_reducible refine hh.mono ?_); clear hh; rintro e w10 ⟨rfl, hs10, n10⟩
             replace hs10 := hide hs10; replace n10 := hide n10)
          | (go_at_call 19; have hh := establish_law B b kx l kx F w10 hs10.out; rw [f2.out] at hh; (with_reducible refine hh.mono ?_); clear hh; rintro e w11 ⟨rfl, hs11, n11⟩
             replace hs11 := hide hs11; replace n11 := hide n11)
          | (go_at_call 20; (with_reducible refine (stands_law B b l kx F w11 hs11.out).mono ?_); rintro e w' ⟨rfl, rfl⟩)
          | (go_at_call 16; have hh := ready_law B b l kx F w11 hl1000.out hs11.out; rw [f3.out] at hh; (with_reducible refine hh.mono ?_); clear hh; rintro e w12 ⟨v12, rfl, r12, hs12, n12⟩; obtain ⟨A12, c12, rfl⟩ := r12.slice; clear r12; simp only [List.length_nil]
             replace hs12 := hide hs12; replace n12 := hide n12)
          | (go_at_call 12; have hh := enter_law B b ⟨kx, 100, 0, false⟩ l kx F w12 hl16.out hs12.out; rw [f4.out] at hh; (with_reducible refine hh.mono ?_); clear hh; rintro e w13 ⟨F13, rfl, hs13, n13⟩
             replace hs13 := hide hs13; replace n13 := hide n13)
          | (go_at_call 12; have hh := enter_law B b ⟨(kx + 1) % 8, 101, 3, false⟩ l kx F13 w13 hl16.out hs13.out; rw [f5.out] at hh; (with_reducible refine hh.mono ?_); clear hh; rintro e w14 ⟨F14, rfl, hs14, n14⟩
             replace hs14 := hide hs14; replace n14 := hide n14)
          | (go_at_call 12; have hh := enter_law B b (xT kx) l kx F14 w14 hl16.out hs14.out; rw [f6.out] at hh; (with_reducible refine hh.mono ?_); clear hh; rintro e w15 ⟨F15, rfl, hs15, n15⟩
             replace hs15 := hide hs15; replace n15 := hide n15)
          | (go_at_call 16; have hh := ready_law B b (l ++ [xT kx]) kx F15 w15 hl1.out hs15.out; rw [f7.out] at hh; (with_reducible refine hh.mono ?_); clear hh; rintro e w16 ⟨v16, rfl, r16, hs16, n16⟩; obtain ⟨g16, c16, rfl, -⟩ := r16.1.some_ (by simp)
             have t16 := tag0 r16 (by simp); replace t16 : w16.cell? ⟨g16, 1, none⟩ = some (.int .u32 102) := t16
             clear r16; simp only [List.length_singleton]
             replace hs16 := hide hs16; replace n16 := hide n16)
          | (go_at_call 21; have hh := relieve_law B b (l ++ [xT kx]) kx F15 w16 hl1.out hs16.out; rw [if_neg (by omega), if_neg (by omega), if_neg (by omega), f8.out, f9.out] at hh; (with_reducible refine hh.mono ?_); clear hh; rintro e w17 ⟨v17, F17, rfl, r17, hs17, n17, -⟩; obtain ⟨g17, c17, rfl, -⟩ := r17.1.some_ (by simp)
             simp only [List.length_singleton]
             replace r17 := hide r17; replace hs17 := hide hs17; replace n17 := hide n17)
          | (go_at_call 16; have hh := ready_law B b l (-1) F17 w17 hl1000.out hs17.out; rw [← hrb.out] at hh; (with_reducible refine hh.mono ?_); clear hh; rintro e w18 ⟨v18, rfl, r18, hs18, n18⟩; obtain ⟨A18, c18, rfl⟩ := r18.slice; rw [← hnb.out] at r18 ⊢
             have r17a := hide (r17.out.nxt n18)
             replace r18 := hide r18; replace hs18 := hide hs18; replace n18 := hide n18)
          | (go_at_call 11; (with_reducible refine (tasks_law B b l (-1) F17 w18 hl1000.out hs18.out).mono ?_); rintro e w19 ⟨v19, rfl, r19, hs19, n19⟩; obtain ⟨A19, c19, rfl⟩ := r19.slice; rw [← hn.out] at r19 ⊢
             have t17 := tag0 (r17a.out.nxt n19) (by simp); replace t17 : w19.cell? ⟨g17, 1, none⟩ = some (.int .u32 102) := t17
             have r18a := hide (r18.out.nxt n19)
             clear r19
             replace hs19 := hide hs19; replace n19 := hide n19)
          | (go_at_call 20; (with_reducible refine (stands_law B b l (-1) F17 w19 hs19.out).mono ?_); rintro e w' ⟨rfl, rfl⟩))
        have ra := hide ((r18a.out.1).rd enc_len rfl)
        have rc := hide ((((((((((r8a.out.nxt n10.out).nxt n11.out).nxt n12.out).nxt n13.out).nxt n14.out).nxt n15.out).nxt n16.out).nxt n17.out).nxt n18.out).nxt n19.out)
        replace rc := hide (rc.out.1.rd enc_len rfl)
        have hb19 := hide ((((((((((((hbl.out.trans n8.out.2.1).trans n9.out.2.1).trans n10.out.2.1).trans n11.out.2.1).trans n12.out.2.1).trans n13.out.2.1).trans n14.out.2.1).trans n15.out.2.1).trans n16.out.2.1).trans n17.out.2.1).trans n18.out.2.1).trans n19.out.2.1)
        clear hs hs8 hs9 hs10 hs11 hs12 hs13 hs14 hs15 hs16 hs17 hs18 hs19 r8 r8a r9 r17 r17a r18 r18a n8 n9 n10 n11 n12 n13 n14 n15 n16 n17 n18 n19 hbl t16 t17 f1 f2 f3 f4 f5 f6 f7 f8 f9
        go_loopw [20] (fun u wr => ∃ k : Nat, k ≤ nb ∧ u = .int .i64 k ∧ Hid (∃ m, wr = w19.drewN m)) (fun u _ => nb - (intOf u).toNat)
        case atStart => exact ⟨0, by omega, rfl, hide ⟨0, rfl⟩⟩
        case round =>
          obtain ⟨i, hi, rfl, hR⟩ := hrel
          obtain ⟨m, rfl⟩ := hR.out
          by_cases hin : i < nb
          · obtain ⟨ad, hA, ga⟩ := at_gi ra.out i hin
            obtain ⟨bd, hB2, gb⟩ := at_gi rc.out i hin
            subst hA; subst hB2
            replace ga := hide ga
            replace gb := hide gb
            clear ra rc
            have e1 : IntKind.i64.wrap ((i : Int) + 1) = (i : Int) + 1 := IntWalk.i64_in _ (by omega)
            go_wp2_with fail
            refine wp_region_quiet_lit (by kernel_rfl) (by kernel_rfl) ?_
            repeat (first
              | (refine quiet_load 26 (.tmp 180) rfl rfl _ Try.underlying26 rfl (ad.add (i * 4)) (Ytabkplmpkdbchaa.enc (gi rb i)) size26 rfl (fun w hw => by obtain ⟨q, rfl⟩ := hw; rw [World.drewN_drewN]; exact ga.out _) ?_)
              | (refine quiet_load 26 (.tmp 184) rfl rfl _ Try.underlying26 rfl (bd.add (i * 4)) (Ytabkplmpkdbchaa.enc (gi rb i)) size26 rfl (fun w hw => by obtain ⟨q, rfl⟩ := hw; rw [World.drewN_drewN]; exact gb.out _) ?_)
              | (refine quiet_neq (.tmp 181) (.tmp 185) _ (gi rb i) (gi rb i) rfl rfl rfl rfl ?_)
              | quiet_step (fail))
            rw [show eqT (gi rb i) (gi rb i) = true by simp [eqT]]
            refine wpQuiet_nil ?_
            intro _ hw'
            obtain ⟨nq, hw''⟩ := hw'
            subst hw''
            simp [Act.put]
            go_wp2_with fail
            go_roundw
            case rel => exact ⟨i + 1, by omega, by go_num, hide ⟨m + nq, by simp [World.drewN]⟩⟩
            case measure => simp [intOf]; omega
          · obtain rfl : i = nb := by omega
            have hb20 := hide (below_drewN hb19.out m)
            clear ra rc hb19 hrb hnb
            generalize w19.drewN m = w20 at *
            go_wp2_with (first
              | (go_at_call 12; (with_reducible refine (enter_nil ⟨-1, 0, 0, false⟩ w20).mono ?_); rintro e w21 ⟨rfl, m21⟩; replace m21 := hide m21)
              | (go_at_call 17; (with_reducible refine (start_nil 0 0 w21).mono ?_); rintro e w' ⟨rfl, rfl⟩)
              | (go_at_call 18; (with_reducible refine (end_nil 0 0 w21).mono ?_); rintro e w22 ⟨rfl, m22⟩; replace m22 := hide m22)
              | (go_at_call 16; (with_reducible refine (ready_nil w22).mono ?_); rintro e w' ⟨rfl, rfl⟩)
              | (go_at_call 11; (with_reducible refine (tasks_none w22).mono ?_); rintro e w' ⟨rfl, rfl⟩)
              | (go_at_call 14; (with_reducible refine (clear_nil w22).mono ?_); rintro e w' ⟨rfl, rfl⟩)
              | (go_at_call 20; (with_reducible refine (stands_nil w22).mono ?_); rintro e w' ⟨rfl, rfl⟩)
              | (go_at_call 19; (with_reducible refine (establish_nil (-1) w22).mono ?_); rintro e w' ⟨rfl, rfl⟩))
            go_ret
            refine ⟨rfl, ?_⟩
            rw [← hB.out]
            have hB20 : B ≤ w20.heap.size := by have h1 := hb20.out.size; have h2 := hB.out; omega
            exact (hb20.out.trans (m21.out.below hB20 (by simp))).trans (m22.out.below (by have := m21.out.size; omega) (by simp))
end Go.Proofs.Ytabkplmpkdbchaa.taskACA
