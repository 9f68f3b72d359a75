/-
  The walk of TaskAborts. No condition.
-/
import Derived.Test.YtabkplmpkdbchaaLaw
import Derived.Test.YtabkplmpkdbchaaEqw
import Derived.Test.YtabkplmpkdbchaaOpen
namespace Go.Proofs.Ytabkplmpkdbchaa.taskAborts
open Go.ChangeShapes Go.WideShapes Go.ChangeAt Go.RowKit Go.Deep
set_option linter.unusedVariables false

/-- What the append of the two rows leaves. -/
theorem joined {B b : Nat} {F : Nat → Prop} {w w' : World} {l g : List T} {aca : Int} {v v' : Value} (hs : SL B w b l aca F) (hv : RO F w v g) (m : List T) (hB : ∀ k, v.ownBlock = some k → B ≤ k)
    (h2 : Row w' 26 4 enc v' (g ++ m)) (h3 : w.grownBy w' v.ownBlock) (h4 : v'.ownBlock = v.ownBlock ∨ v'.ownBlock = some w.heap.size) :
    RO F w' v' (g ++ m) ∧ SL B w' b l aca F ∧ Below B w w' := by
  have hm : Mod (fun k => v.ownBlock = some k) w w' := grown_mod h3
  refine ⟨⟨h2, fun k hk hf => ?_⟩, ⟨hs.1.mod hm fun k hk e => hv.2 k e hk, fun k hk => ⟨(hs.2.1 k hk).1, Nat.lt_of_lt_of_le (hs.2.1 k hk).2 hm.size⟩, Nat.le_trans hs.2.2 hm.size⟩, hm.below hs.2.2 fun k hk => hB k hk⟩
  rcases h4 with e | e
  · rw [e] at hk; exact hv.2 k hk hf
  · rw [e] at hk; obtain rfl := Option.some.inj hk; have := (hs.2.1 _ hf).2; omega

theorem at_gi {w : World} {A : Option Addr} {n : Nat} {l : List T} (r : Rd w 4 Ytabkplmpkdbchaa.enc A n l) (k : Nat) (hk : k < n) : ∃ ad, A = some ad ∧ ∀ q j u, (Ytabkplmpkdbchaa.enc (gi l k))[j]? = some u → (w.drewN q).cell? ((ad.add (k * 4)).add j) = some u := by
  obtain ⟨ad, e, hc⟩ := r.elem k hk
  exact ⟨ad, e, fun q => hc⟩

/-- A task of a nexus of which none is there comes in. -/
theorem enter_free (B b : Nat) (r : List T) (F : Nat → Prop) (w W : World) (hr : r.length < 16) (hs : SL B W b r (-1) F) (hbl : Below B w W) (x y : Int) (hx : 0 ≤ x ∧ x < 8) (hno : ∀ t ∈ r, ¬ t.nx = x) :
    Calls Try.prog 12 #[.pointer (some ⟨b, 0, none⟩), .agg #[.int .i64 x, .int .u32 y, .int .u8 0, .bool false]] W fun e w' => e = .returned (.tuple #[.int .u8 0, .int .i64 0]) ∧ Hid (Below B w w') := by
  have h3 : fnd r x y = -1 := fnd_no fun j hj => by
    have := hno (gi r j) (by rw [gi_eq r j hj]; exact List.getElem_mem _)
    simp [hit, this]
  have h1 : ent r (-1) ⟨x, y, 0, false⟩ = (0, 0, r ++ [⟨x, y, 0, false⟩]) := by
    have a1 : ¬ (x < 0 ∨ 8 ≤ x ∨ (3 : Int) < 0) := by omega
    have a2 : ¬ barred (-1) (⟨x, y, 0, false⟩ : T) := by
      rintro (⟨h, _⟩ | ⟨_, h⟩)
      · omega
      · have h' : (0 : Int) = 3 := h
        omega
    rw [ent, if_neg a1]
    show (if fnd r x y ≥ 0 then _ else _) = _
    rw [h3, if_neg (by decide), if_neg a2, if_neg (by omega)]
  refine (enter_law B b ⟨x, y, 0, false⟩ r (-1) F W (by omega) hs).mono fun e w' ⟨F', he, h4, h5⟩ => ?_
  rw [h1] at he
  exact ⟨he, hide (hbl.trans h5.2.1)⟩

set_option maxRecDepth 100000 in
set_option maxHeartbeats 2000000 in
theorem walk0 (A : Option Addr) (len cap : Nat) (attrs : List Int) (nexus : Int) (all : Bool) (w : World) (hr : Rd w 1 (ic .u8) A len attrs) (hb : ∀ a ∈ attrs, 0 ≤ a ∧ a ≤ 255) (h0 : 0 ≤ nexus ∧ nexus ≤ 255) :
    Calls Try.prog 4 #[.slice A len cap, .int .u8 nexus, .bool all] w fun e w' => e = .returned (.bool true) ∧ Below w.heap.size w w' := by
  obtain ⟨B, hB⟩ : ∃ B, B = w.heap.size := ⟨_, rfl⟩
  have haw := awake_any w
  have hfill : ∀ W, Mod (fun _ => False) w W → _ := fun W hm => fill_law A len cap attrs W (hr.mod hm (by simp)) hb B (by have := hm.size; omega)
  have hll : (fillL attrs (min len 16)).length ≤ 16 := by rw [fillL_length]; omega
  have e1 : IntKind.i64.wrap nexus = nexus := IntWalk.i64_in _ (by omega)
  have e2 : nexus.tmod 3 = nexus % 3 := Int.tmod_eq_emod_of_nonneg h0.1
  have htags : ∀ t ∈ fillL attrs (min len 16), (0 ≤ t.nx ∧ t.nx < 3) := fun t ht => by
    obtain ⟨i, hi, e⟩ := List.getElem_of_mem ht
    have h2 : i < min len 16 := by rw [fillL_length] at hi; exact hi
    rw [← e, ← gi_eq _ i hi, fillL_gi _ _ _ h2]
    show 0 ≤ gi attrs i / 4 % 3 ∧ gi attrs i / 4 % 3 < 3
    omega
  generalize fillL attrs (min len 16) = l at *
  have hnx : 0 ≤ nexus % 3 ∧ nexus % 3 < 3 := by omega
  clear hr hb
  generalize hnn : nexus % 3 = nx at *
  replace hB := hide hB
  replace haw := hide haw
  replace hfill := hide hfill
  replace hll := hide hll
  replace htags := hide htags
  replace hnn := hide hnn
  replace h0 := hide h0
  have hfl : ∀ p : T → Bool, (l.filter p).length ≤ 1000 := fun p => Nat.le_trans (List.length_filter_le _ _) (Nat.le_trans hll.out (by decide))
  replace hfl := hide hfl
  obtain ⟨n, hn⟩ : ∃ n, n = l.length := ⟨_, rfl⟩
  obtain ⟨ng, hng⟩ : ∃ n, n = (l.filter (pNx nx)).length := ⟨_, rfl⟩
  obtain ⟨nr, hnr⟩ : ∃ n, n = (l.filter fun t => !pNx nx t).length := ⟨_, rfl⟩
  have hsum : ng + nr = n := by
    rw [hn, hng, hnr]
    exact split_length (pNx nx) l
  have hn16 : n ≤ 16 := by rw [hn]; exact hll.out
  have e3 : IntKind.i64.wrap ((ng : Int) + nr) = n := by rw [IntWalk.i64_in _ (by omega)]; omega
  have e4 : IntKind.i64.wrap ((n : Int) + 0) = n := by rw [IntWalk.i64_in _ (by omega)]; omega
  replace hn := hide hn; replace hng := hide hng; replace hnr := hide hnr
  cases all
  all_goals
    go_enter Try.func4, Try.ntmps4
    go_wp2_with (first
      | (go_at_call 9; (with_reducible refine haw.out.mono ?_); rintro e w1 ⟨rfl, m1⟩; replace m1 := hide m1)
      | (go_at_call 10; (with_reducible refine (hfill.out _ m1.out).mono ?_); rintro e w2 ⟨b, F, rfl, hs, bl2⟩; replace hs := hide hs; replace bl2 := hide bl2)
      | (go_at_call 11; (with_reducible refine (tasks_law B b l (-1) F w2 (Nat.le_trans hll.out (by decide)) hs.out).mono ?_); rintro e w3 ⟨v1, rfl, r1, hs3, n3⟩; obtain ⟨A1, c1, rfl⟩ := r1.slice; rw [← hn.out] at r1 ⊢
         replace r1 := hide r1; replace hs3 := hide hs3; replace n3 := hide n3)
      | (go_at_call 13; (with_reducible refine (abortAll_law B b nx l (-1) F w3 (Nat.le_trans hll.out (by decide)) hs3.out).mono ?_); rintro e w4 ⟨v2, F2, rfl, r2, hs4, n4, o2⟩; obtain ⟨A2, c2, rfl⟩ := r2.slice; rw [← hng.out] at r2 o2 ⊢
         have r1' := hide (r1.out.nxt n4)
         replace o2 := hide o2
         replace r2 := hide r2; replace hs4 := hide hs4; replace n4 := hide n4)
      | (go_at_call 14; (with_reducible refine (clear_law B b _ (-1) F2 w4 (hfl.out _) hs4.out).mono ?_); rintro e w5 ⟨v3, F3, rfl, r3, hs5, n5, o3⟩; obtain ⟨A3, c3, rfl⟩ := r3.slice; rw [← hnr.out] at r3 ⊢
         have r1'' := hide (r1'.out.nxt n5); have r2' := hide (r2.out.nxt n5)
         replace r3 := hide r3; replace hs5 := hide hs5; replace n5 := hide n5)
      | (at_builtin; refine list_app (.tmp 30) (.tmp 32) 30 26 _ 4 16 Ytabkplmpkdbchaa.enc rfl rfl enc_len enc_one Try.underlying30 elem26 (.slice A2 _ c2) (l.filter (pNx nx)) A3 _ c3 _ rfl rfl r2'.out.1 (r3.out.1.rd enc_len rfl) (by have h1 := hfl.out (pNx nx); have h2 := hfl.out (fun t => !pNx nx t); simp only [maxLen]; omega) (by have h1 := hfl.out (pNx nx); have h2 := hfl.out (fun t => !pNx nx t); omega) ?_; intro v6 w6 h6 g6 a6
         obtain ⟨A6, c6, hv6, -, -⟩ := h6.slice; rw [List.length_append, ← hng.out, ← hnr.out, hsum] at hv6; subst hv6
         obtain ⟨ro6, hs6, bl6⟩ := joined hs5.out r2'.out _ (fun k hk => Nat.le_trans hs3.out.2.2 (o2.out k hk)) h6 g6 a6
         have r16 := hide ((r1''.out.1).mod (grown_mod g6) fun k hk e => by have := o2.out k e; have := r1.out.1.lt k hk; omega)
         replace ro6 := hide ro6; replace hs6 := hide hs6; replace bl6 := hide bl6
         replace h6 := hide h6; replace a6 := hide a6; replace g6 := hide g6)
      | (go_at_call 11; (with_reducible refine (tasks_law B b _ (-1) F2 w4 (hfl.out _) hs4.out).mono ?_); rintro e w7 ⟨v7, rfl, r7, hs7, n7⟩; obtain ⟨A7, c7, rfl⟩ := r7.slice; try rw [← hnr.out] at r7 ⊢
         replace r7 := hide r7; replace hs7 := hide hs7; replace n7 := hide n7)
      | (go_at_call 11; (with_reducible refine (tasks_law B b [] (-1) F3 w6 (by decide) hs6.out).mono ?_); rintro e w7 ⟨v7, rfl, r7, hs7, n7⟩; obtain ⟨A7, c7, rfl⟩ := r7.slice; try rw [← hnr.out] at r7 ⊢
         replace r7 := hide r7; replace hs7 := hide hs7; replace n7 := hide n7))
  · skip
    have ra := hide ((r1'.out.nxt n7.out).1.rd enc_len rfl)
    have rg := hide ((r2.out.nxt n7.out).1.rd enc_len rfl)
    have rgo := hide (r2.out.nxt n7.out).1
    have rl := hide (r7.out.1.rd enc_len rfl)
    have hG : ∀ k, k < n → pNx nx (gi l k) = true → cnt (pNx nx) l k < ng ∧ gi (l.filter (pNx nx)) (cnt (pNx nx) l k) = gi l k := fun k hk hp => by
      have := cnt_yes (pNx nx) l k (by rw [← hn.out]; exact hk) hp
      rw [hng.out]; exact this.2
    replace hG := hide hG
    have hB0 := hB.out
    have hbl : Below B w w7 := ((((m1.out.below (by omega) (by simp)).trans bl2.out).trans n3.out.2.1).trans n4.out.2.1).trans n7.out.2.1
    replace hbl := hide hbl
    clear haw hfill hs hs3 hs4 n3 n4 n7 m1 bl2
    go_loopw [12, 13, 14] (fun u v x wr => ∃ k : Nat, k ≤ n ∧ x = .int .i64 k ∧ u = .int .i64 (cnt (pNx nx) l k) ∧ v = .int .i64 (cnt (fun t => !pNx nx t) l k : Nat) ∧ Hid (∃ m, wr = w7.drewN m)) (fun _ _ x _ => n - (intOf x).toNat)
    case atStart => exact ⟨0, by omega, rfl, rfl, rfl, hide ⟨0, rfl⟩⟩
    case round =>
      obtain ⟨k, hk, rfl, rfl, rfl, hR⟩ := hrel
      by_cases hlt : k < n
      · obtain ⟨q, rfl⟩ := hR.out
        obtain ⟨ad, hA, ga⟩ := at_gi ra.out k hlt
        subst hA
        have f0 : (w7.drewN q).cell? (ad.add (k * 4)) = some (.int .i64 (gi l k).nx) := by have := ga q 0 _ rfl; rwa [addr_add] at this
        have e5 : IntKind.i64.wrap ((k : Int) + 1) = (k : Int) + 1 := IntWalk.i64_in _ (by omega)
        replace ga := hide ga
        clear ra
        by_cases hp : (gi l k).nx = nx
        · have hpb : ((gi l k).nx == nx) = true := by simpa using hp
          obtain ⟨hi, gg⟩ := hG.out k hlt hpb
          have ci := (cnt_yes (pNx nx) l k (by rw [← hn.out]; exact hlt) hpb).1
          have cj := cnt_no (fun t => !pNx nx t) l k (by rw [← hn.out]; exact hlt) (by simp [pNx, hp])
          generalize cnt (pNx nx) l k = i at *
          obtain ⟨bd, hB2, gb⟩ := at_gi rg.out i hi
          subst hB2
          rw [gg] at gb
          replace gb := hide gb
          clear rg gg
          replace hp := hide hp
          replace cj := hide cj; replace ci := hide ci
          go_wp2_with fail
          refine wp_region_quiet_lit (by kernel_rfl) (by kernel_rfl) ?_
          repeat (first
            | (refine quiet_task_w (.tmp 64) (gi l k) (bd.add (i * 4)) (by go_simp) rfl rfl (fun w hw => by obtain ⟨q, rfl⟩ := hw; rw [World.drewN_drewN]; exact gb.out _) ?_)
            | (refine quiet_task_w (.tmp 68) (gi l k) (ad.add (k * 4)) (by go_simp) rfl rfl (fun w hw => by obtain ⟨q, rfl⟩ := hw; rw [World.drewN_drewN]; exact ga.out _) ?_)
            | (refine quiet_neq_w (.tmp 65) (.tmp 69) _ (gi l k) (gi l k) (by go_simp) rfl rfl rfl ?_)
            | quiet_step (fail))
          rw [show eqT (gi l k) (gi l k) = true by simp [eqT]]
          refine wpQuiet_nil ?_
          intro _ hw'
          obtain ⟨nq, hw''⟩ := hw'
          subst hw''
          simp
          go_wp2_with fail
          go_roundw
          case rel => exact ⟨k + 1, by omega, by go_num, by rw [ci.out]; go_num, by first | rfl | rw [cj.out], hide ⟨q + nq, by simp [World.drewN]⟩⟩
          case measure => simp [intOf]; omega
        · have hpb : ((gi l k).nx == nx) = false := by simpa using hp
          have hpn : (!pNx nx (gi l k)) = true := by simp [pNx, hp]
          obtain ⟨cj, hj, gj⟩ := cnt_yes (fun t => !pNx nx t) l k (by rw [← hn.out]; exact hlt) hpn
          have ci := cnt_no (pNx nx) l k (by rw [← hn.out]; exact hlt) hpb
          rw [← hnr.out] at hj
          generalize cnt (fun t => !pNx nx t) l k = j at *
          obtain ⟨bd, hB2, gb⟩ := at_gi rl.out j hj
          subst hB2
          rw [gj] at gb
          replace gb := hide gb
          clear rg rl gj
          replace hp := hide hp
          replace cj := hide cj; replace ci := hide ci
          go_wp2_with fail
          refine wp_region_quiet_lit (by kernel_rfl) (by kernel_rfl) ?_
          repeat (first
            | (refine quiet_task_w (.tmp 83) (gi l k) (bd.add (j * 4)) (by go_simp) rfl rfl (fun w hw => by obtain ⟨q, rfl⟩ := hw; rw [World.drewN_drewN]; exact gb.out _) ?_)
            | (refine quiet_task_w (.tmp 87) (gi l k) (ad.add (k * 4)) (by go_simp) rfl rfl (fun w hw => by obtain ⟨q, rfl⟩ := hw; rw [World.drewN_drewN]; exact ga.out _) ?_)
            | (refine quiet_neq_w (.tmp 84) (.tmp 88) _ (gi l k) (gi l k) (by go_simp) rfl rfl rfl ?_)
            | quiet_step (fail))
          rw [show eqT (gi l k) (gi l k) = true by simp [eqT]]
          refine wpQuiet_nil ?_
          intro _ hw'
          obtain ⟨nq, hw''⟩ := hw'
          subst hw''
          simp
          go_wp2_with fail
          go_roundw
          case rel => exact ⟨k + 1, by omega, by go_num, by rw [ci.out], by rw [cj.out]; go_num, hide ⟨q + nq, by simp [World.drewN]⟩⟩
          case measure => simp [intOf]; omega
      · obtain rfl : k = n := by omega
        obtain ⟨q, rfl⟩ := hR.out
        by_cases hm0 : ng = 0
        · have hm1 : (((ng : Nat) : Int) == 0) = true := by simp [hm0]
          replace hm0 := hide hm0
          go_wp2_with fail
          go_ret
          exact ⟨rfl, by rw [← hB.out]; exact below_drewN hbl.out _⟩
        · have hm1 : (((ng : Nat) : Int) == 0) = false := by simp [hm0]
          have hm2 : 0 < ng := by omega
          have hrow := rgo.out
          obtain ⟨g, c9, hv, -⟩ := hrow.some_ (by rw [← hng.out]; omega)
          obtain rfl : A2 = some ⟨g, 0, none⟩ := by injection hv
          obtain ⟨gd, hG2, c0, c1, c2, c3⟩ := rg.out.task 0 hm2
          obtain rfl := Option.some.inj hG2
          clear hrow hv hG2
          have hmem : gi (l.filter (pNx nx)) 0 ∈ l.filter (pNx nx) := by rw [gi_eq _ 0 (by rw [← hng.out]; omega)]; exact List.getElem_mem _
          rw [List.mem_filter] at hmem
          have hx : (gi (l.filter (pNx nx)) 0).nx = nx := by simpa [pNx] using hmem.2
          have hcall := hide (enter_free B b (l.filter fun t => !pNx nx t) F2 w (w7.drewN (q + 1)) (by rw [← hnr.out]; omega) (⟨hs7.out.1.mod (Mod.drewN (Mod.refl (fun _ => False) w7) (q + 1)) (by simp), hs7.out.2.1, hs7.out.2.2⟩) (below_drewN hbl.out (q + 1)) (gi (l.filter (pNx nx)) 0).nx (gi (l.filter (pNx nx)) 0).tag (by have := htags.out _ hmem.1; omega) (fun t ht => by rw [hx]; simp [pNx] at ht; exact ht.2))
          clear hmem
          clear hx
          generalize gi (l.filter (pNx nx)) 0 = g0 at *
          replace c0 : w7.cell? ⟨g, 0, none⟩ = some (.int .i64 g0.nx) := c0
          replace c1 : w7.cell? ⟨g, 1, none⟩ = some (.int .u32 g0.tag) := c1
          have i0 : (0 : Int) < ((ng : Nat) : Int) := by omega
          clear hG ra rg c2 c3
          go_wp2_with fail
          go_region_with (go_at_call 12; (with_reducible refine hcall.out.mono ?_); rintro e w8 ⟨rfl, h8⟩)
          all_goals
            go_wp2_with fail
            go_ret
            exact ⟨rfl, by rw [← hB.out]; exact h8.out⟩
  · skip
    have ra := hide ((RO.nxt ⟨r16.out, r1''.out.2⟩ n7.out).1.rd enc_len rfl)
    have rg := hide ((ro6.out.nxt n7.out).1.rd enc_len rfl)
    have rgo := hide (ro6.out.nxt n7.out).1
    have hG : ∀ k, k < n → pNx nx (gi l k) = true → cnt (pNx nx) l k < n ∧ gi (l.filter (pNx nx) ++ l.filter fun t => !pNx nx t) (cnt (pNx nx) l k) = gi l k := fun k hk hp => by
      have := cnt_yes (pNx nx) l k (by rw [← hn.out]; exact hk) hp
      rw [gi_append_left _ _ _ this.2.1]
      have h2 := this.2.1
      rw [← hng.out] at h2
      exact ⟨by omega, this.2.2⟩
    replace hG := hide hG
    have hB0 := hB.out
    have hbl : Below B w w7 := ((((((m1.out.below (by omega) (by simp)).trans bl2.out).trans n3.out.2.1).trans n4.out.2.1).trans n5.out.2.1).trans bl6.out).trans n7.out.2.1
    replace hbl := hide hbl
    clear haw hfill hs hs3 hs4 n3 n4 n7 m1 bl2
    go_loopw [12, 13, 14] (fun u v x wr => ∃ k : Nat, k ≤ n ∧ x = .int .i64 k ∧ u = .int .i64 (cnt (pNx nx) l k) ∧ v = .int .i64 (0 : Nat) ∧ Hid (∃ m, wr = w7.drewN m)) (fun _ _ x _ => n - (intOf x).toNat)
    case atStart => exact ⟨0, by omega, rfl, rfl, rfl, hide ⟨0, rfl⟩⟩
    case round =>
      obtain ⟨k, hk, rfl, rfl, rfl, hR⟩ := hrel
      by_cases hlt : k < n
      · obtain ⟨q, rfl⟩ := hR.out
        obtain ⟨ad, hA, ga⟩ := at_gi ra.out k hlt
        subst hA
        have f0 : (w7.drewN q).cell? (ad.add (k * 4)) = some (.int .i64 (gi l k).nx) := by have := ga q 0 _ rfl; rwa [addr_add] at this
        have e5 : IntKind.i64.wrap ((k : Int) + 1) = (k : Int) + 1 := IntWalk.i64_in _ (by omega)
        replace ga := hide ga
        clear ra
        by_cases hp : (gi l k).nx = nx
        · have hpb : ((gi l k).nx == nx) = true := by simpa using hp
          obtain ⟨hi, gg⟩ := hG.out k hlt hpb
          have ci := (cnt_yes (pNx nx) l k (by rw [← hn.out]; exact hlt) hpb).1
          have cj := cnt_no (fun t => !pNx nx t) l k (by rw [← hn.out]; exact hlt) (by simp [pNx, hp])
          generalize cnt (pNx nx) l k = i at *
          obtain ⟨bd, hB2, gb⟩ := at_gi rg.out i hi
          subst hB2
          rw [gg] at gb
          replace gb := hide gb
          clear rg gg
          replace hp := hide hp
          replace cj := hide cj; replace ci := hide ci
          go_wp2_with fail
          refine wp_region_quiet_lit (by kernel_rfl) (by kernel_rfl) ?_
          repeat (first
            | (refine quiet_task_w (.tmp 64) (gi l k) (bd.add (i * 4)) (by go_simp) rfl rfl (fun w hw => by obtain ⟨q, rfl⟩ := hw; rw [World.drewN_drewN]; exact gb.out _) ?_)
            | (refine quiet_task_w (.tmp 68) (gi l k) (ad.add (k * 4)) (by go_simp) rfl rfl (fun w hw => by obtain ⟨q, rfl⟩ := hw; rw [World.drewN_drewN]; exact ga.out _) ?_)
            | (refine quiet_neq_w (.tmp 65) (.tmp 69) _ (gi l k) (gi l k) (by go_simp) rfl rfl rfl ?_)
            | quiet_step (fail))
          rw [show eqT (gi l k) (gi l k) = true by simp [eqT]]
          refine wpQuiet_nil ?_
          intro _ hw'
          obtain ⟨nq, hw''⟩ := hw'
          subst hw''
          simp
          go_wp2_with fail
          go_roundw
          case rel => exact ⟨k + 1, by omega, by go_num, by rw [ci.out]; go_num, by first | rfl | rw [cj.out], hide ⟨q + nq, by simp [World.drewN]⟩⟩
          case measure => simp [intOf]; omega
        · have hpb : ((gi l k).nx == nx) = false := by simpa using hp
          have ci := cnt_no (pNx nx) l k (by rw [← hn.out]; exact hlt) hpb
          replace hp := hide hp
          replace ci := hide ci
          clear rg
          go_wp2_with fail
          go_roundw
          case rel => exact ⟨k + 1, by omega, by go_num, by rw [ci.out], rfl, hide ⟨_, rfl⟩⟩
          case measure => simp [intOf]; omega
      · obtain rfl : k = n := by omega
        obtain ⟨q, rfl⟩ := hR.out
        by_cases hm0 : k = 0
        · have hm1 : (((k : Nat) : Int) == 0) = true := by simp [hm0]
          replace hm0 := hide hm0
          go_wp2_with fail
          go_ret
          exact ⟨rfl, by rw [← hB.out]; exact below_drewN hbl.out _⟩
        · have hm1 : (((k : Nat) : Int) == 0) = false := by simp [hm0]
          have hm2 : 0 < k := by omega
          have hrow := rgo.out
          obtain ⟨g, c9, hv, -⟩ := hrow.some_ (by rw [List.length_append, ← hng.out, ← hnr.out]; omega)
          obtain rfl : A6 = some ⟨g, 0, none⟩ := by injection hv
          obtain ⟨gd, hG2, c0, c1, c2, c3⟩ := rg.out.task 0 hm2
          obtain rfl := Option.some.inj hG2
          clear hrow hv hG2
          have hmem : gi (l.filter (pNx nx) ++ l.filter fun t => !pNx nx t) 0 ∈ l.filter (pNx nx) ++ l.filter fun t => !pNx nx t := by rw [gi_eq _ 0 (by rw [List.length_append, ← hng.out, ← hnr.out]; omega)]; exact List.getElem_mem _
          have hcall := hide (enter_free B b [] F3 w (w7.drewN (q + 1)) (by decide) (⟨hs7.out.1.mod (Mod.drewN (Mod.refl (fun _ => False) w7) (q + 1)) (by simp), hs7.out.2.1, hs7.out.2.2⟩) (below_drewN hbl.out (q + 1)) (gi (l.filter (pNx nx) ++ l.filter fun t => !pNx nx t) 0).nx (gi (l.filter (pNx nx) ++ l.filter fun t => !pNx nx t) 0).tag (by simp only [List.mem_append, List.mem_filter] at hmem; have := htags.out _ (hmem.elim (·.1) (·.1)); omega) (by simp))
          clear hmem
          generalize gi (l.filter (pNx nx) ++ l.filter fun t => !pNx nx t) 0 = g0 at *
          replace c0 : w7.cell? ⟨g, 0, none⟩ = some (.int .i64 g0.nx) := c0
          replace c1 : w7.cell? ⟨g, 1, none⟩ = some (.int .u32 g0.tag) := c1
          have i0 : (0 : Int) < ((k : Nat) : Int) := by omega
          clear hG ra rg c2 c3
          go_wp2_with fail
          go_region_with (go_at_call 12; (with_reducible refine hcall.out.mono ?_); rintro e w8 ⟨rfl, h8⟩)
          all_goals
            go_wp2_with fail
            go_ret
            exact ⟨rfl, by rw [← hB.out]; exact h8.out⟩
end Go.Proofs.Ytabkplmpkdbchaa.taskAborts
