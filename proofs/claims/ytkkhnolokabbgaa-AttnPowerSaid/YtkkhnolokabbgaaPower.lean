/-
  For every two lists of codes and every nexus number, AttnPower returns true and leaves its arguments as they were. No condition.
-/
import Derived.Test.YtkkhnolokabbgaaAll
import Derived.Test.YtkkhnolokabbgaaRows
import Derived.WalkKit
import Derived.ProofKit
import Derived.OpenShut
import Derived.ShutString
import Derived.ChangeOld
import Derived.Below
namespace Go.Proofs.Ytkkhnolokabbgaa.attnPower
open Go.ChangeShapes Go.WideShapes Go.ChangeAt Go.RowKit
open Go.ChangeMaps (open_string shut_string)
set_option linter.unusedVariables false

theorem own : ownKnob Try.prog.godebug = none := by kernel_rfl
theorem laidOut : laidOutB Try.prog = true := by kernel_rfl

/-- WHAT THE WALK IS TOLD OF A SLICE OF INTEGERS THAT CAME IN: it is nil; or it leads to a row of 'cap' cells, the numbers 'zs' (the first 'len' are its elements, the rest its spare room), each fitting its kind. -/
def IsRow (k : IntKind) (w : World) (a : Option Addr) (len cap : Nat) (zs : List Int) : Prop :=
  (a = none ∧ len = 0 ∧ cap = 0 ∧ zs = []) ∨
  ∃ x, a = some x ∧ len ≤ cap ∧ cap ≤ maxLen ∧ zs.length = cap ∧ (∀ i, i < zs.length → w.cell? (x.add i) = some (.int k (zs.getD i 0))) ∧ ∀ n ∈ zs, (Lit.int k n).wf = true

theorem rd_of_row {w : World} {a : Option Addr} {len cap : Nat} {zs : List Int} (h : IsRow .u16 w a len cap zs) : ∃ l, Rd w 1 (ic .u16) a len l ∧ All16 l := by
  rcases h with ⟨rfl, rfl, rfl, rfl⟩ | ⟨x, rfl, hl, _, hz, hc, hw⟩
  · exact ⟨[], Rd.none_ _ _ _ _, fun c hc => by cases hc⟩
  · refine ⟨zs.take len, rd_ints (by simp; omega) fun i hi => ⟨x, rfl, ?_⟩, fun c hc => ?_⟩
    · rw [hc i (by omega)]
      simp [Ytkkhnolokabbgaa.gi, List.getD_eq_getElem?_getD, hi]
    · have := bounds_u16 (hw c (List.mem_of_mem_take hc))
      exact ⟨by omega, by omega⟩

/-- Some queues, all of the call's own. -/
def Some' (B b : Nat) (w w' : World) : Prop := ∃ L, Q w' b L (fun k => B ≤ k) ∧ Below B w w' ∧ B ≤ w'.heap.size
theorem some_add {B b : Nat} {n c : Int} {w w1 : World} (h : Some' B b w w1) (h0 : 0 ≤ n) (h8 : n < 8) (hc : U16 c) :
    Calls Try.prog 9 #[.pointer (some ⟨b, 0, none⟩), .int .i64 n, .int .u16 c] w1 fun e w' => e = .returned (.tuple #[]) ∧ Hid (Some' B b w w') := by
  obtain ⟨L, hq, hb, hs⟩ := h
  exact (add_big b B n c L w1 h0 h8 hc hs hq).mono fun e w' ⟨he, h1, h2⟩ => ⟨he, hide ⟨_, h1, hb.trans h2, Nat.le_trans hs h2.size⟩⟩
/-- Behind a power on: it stands first for n, and alone for the others. -/
def Power (B b : Nat) (n : Int) (w w' : World) : Prop := ∃ L r, Q w' b L (fun k => B ≤ k) ∧ L n.toNat = 10496 :: r ∧ (∀ i, i < 8 → i ≠ n.toNat → L i = [10496]) ∧ Below B w w' ∧ B ≤ w'.heap.size
theorem power_all {B b : Nat} {n : Int} {w w1 : World} (h : Some' B b w w1) (h0 : 0 ≤ n) (h8 : n < 8) :
    Calls Try.prog 14 #[.pointer (some ⟨b, 0, none⟩), .int .i64 (-1), .int .u16 10496] w1 fun e w' => e = .returned (.tuple #[]) ∧
      Hid (∃ L, Q w' b L (fun k => B ≤ k) ∧ (∀ i, i < 8 → L i = [10496]) ∧ Below B w w' ∧ B ≤ w'.heap.size) := by
  obtain ⟨L, hq, hb, hs⟩ := h
  refine (addAll_big b B (-1) 10496 L w1 ⟨by decide, by decide⟩ hs hq).mono fun e w' ⟨he, h1, h2⟩ => ⟨he, hide ⟨_, h1, fun i hi => ?_, hb.trans h2, Nat.le_trans hs h2.size⟩⟩
  have : (i : Int) ≠ -1 := by omega
  simp [allTo, hi, this, addL]
theorem power_add {B b : Nat} {n c : Int} {w w1 : World} (h : Power B b n w w1) (h0 : 0 ≤ n) (h8 : n < 8) (hc : U16 c) (h41 : c / 256 ≠ 41) :
    Calls Try.prog 9 #[.pointer (some ⟨b, 0, none⟩), .int .i64 n, .int .u16 c] w1 fun e w' => e = .returned (.tuple #[]) ∧ Hid (Power B b n w w') := by
  obtain ⟨L, r, hq, hL, ho, hb, hs⟩ := h
  have hne : c ≠ 10496 := fun e => by subst e; exact h41 (by decide)
  have hr : ∃ r', addL (L n.toNat) c = 10496 :: r' := by
    rw [hL]
    unfold addL
    rw [if_neg hne]
    split
    · exact ⟨_, rfl⟩
    · split
      · exact ⟨r ++ [c], rfl⟩
      · exact ⟨_, rfl⟩
  obtain ⟨r', hr'⟩ := hr
  refine (add_big b B n c L w1 h0 h8 hc hs hq).mono fun e w' ⟨he, h1, h2⟩ => ⟨he, hide ⟨_, r', h1, ?_, fun i hi hn => ?_, hb.trans h2, Nat.le_trans hs h2.size⟩⟩
  · simp only [put, if_true]; exact hr'
  · simp only [put, if_neg hn]; exact ho i hi hn
theorem power_next {B b : Nat} {n n2 : Int} {w w1 : World} (h : Power B b n w w1) (h0 : 0 ≤ n) (h8 : n < 8) (h02 : 0 ≤ n2) (h82 : n2 < 8) (hn : n2.toNat ≠ n.toNat) :
    Calls Try.prog 12 #[.pointer (some ⟨b, 0, none⟩), .int .i64 n] w1 fun e w' => e = .returned (.tuple #[.int .u16 10496, .bool true]) ∧
      Hid (Calls Try.prog 12 #[.pointer (some ⟨b, 0, none⟩), .int .i64 n2] w' fun e w' => e = .returned (.tuple #[.int .u16 10496, .bool true]) ∧ Hid (Below B w w')) := by
  obtain ⟨L, r, hq, hL, ho, hb, hs⟩ := h
  refine (next_big b B n L w1 h0 h8 hs hq 0 ?_).mono fun e w' ⟨he, h1, h2⟩ => ⟨?_, hide ((next_big b B n2 _ w' h02 h82 (Nat.le_trans hs h2.size) h1 0 ?_).mono fun e w2 ⟨he2, h3, h4⟩ => ⟨?_, hide ((hb.trans h2).trans h4)⟩)⟩
  · rw [hL]; exact fi_zero (10496 :: r) (show rk 10496 = 0 by decide) _ (by simp)
  · rw [he, hL]; rfl
  · simp only [put, if_neg hn]; rw [ho _ (by omega) hn]; decide
  · rw [he2]; simp only [put, if_neg hn]; rw [ho _ (by omega) hn]; rfl

set_option maxRecDepth 100000 in
set_option maxHeartbeats 2000000 in
theorem walk (a0 : Option Addr) (len0 cap0 : Nat) (z0 : List Int) (a1 : Option Addr) (len1 cap1 : Nat) (z1 : List Int) (a2 : Int) (w : World) (w0 : IsRow .u16 w a0 len0 cap0 z0) (w1 : IsRow .u16 w a1 len1 cap1 z1) (w2 : (Lit.int .u8 a2).wf = true) :
    Calls Try.prog 4 #[.slice a0 len0 cap0, .slice a1 len1 cap1, .int .u8 a2] w fun e w' => e = .returned (.bool true) ∧ Below w.heap.size w w' := by
  obtain ⟨cs0, hrd0, hu0⟩ := rd_of_row w0
  obtain ⟨cs1, hrd1, hu1⟩ := rd_of_row w1
  have hb0 := bounds_u8 w2
  clear w0 w1 w2
  obtain ⟨n, hn⟩ : ∃ n : Int, n = a2 % 8 := ⟨_, rfl⟩
  have hn0 : 0 ≤ n ∧ n < 8 := by omega
  obtain ⟨h0, h8⟩ := hn0
  have hmod : a2.tmod 8 = n := by rw [hn]; exact Int.tmod_eq_emod_of_nonneg hb0.1
  have hmod2 : a2 % 8 = n := hn.symm
  clear hn
  obtain ⟨n2, hn2⟩ : ∃ n2 : Int, n2 = (n + 3) % 8 := ⟨_, rfl⟩
  have hn20 : 0 ≤ n2 ∧ n2 < 8 ∧ n2.toNat ≠ n.toNat := by omega
  have hmod3 : (n + 3).tmod 8 = n2 := by rw [hn2]; exact Int.tmod_eq_emod_of_nonneg (by omega)
  have hmod4 : (n + 3) % 8 = n2 := hn2.symm
  clear hn2
  replace hn20 := hide hn20
  replace hrd0 := hide hrd0
  replace hu0 := hide hu0
  replace hrd1 := hide hrd1
  replace hu1 := hide hu1
  go_enter Try.func4, Try.ntmps4
  go_wp2_with (first
    | (go_at_call 7; refine (awake_big w.heap.size w (Nat.le_refl _)).mono ?_; rintro e wa ⟨rfl, ba⟩; replace ba := hide ba)
    | (go_at_call 8; refine (new_big w.heap.size _ ba.out.size).mono ?_; rintro e wb ⟨rfl, hq, bb⟩; replace hq := hide hq; replace bb := hide bb))
  have hf0 : Some' w.heap.size wa.heap.size w wb := ⟨_, hq.out, ba.out.trans bb.out, Nat.le_trans ba.out.size bb.out.size⟩
  generalize wa.heap.size = b at *
  clear ba bb hq
  replace hf0 := hide hf0
  go_loopw [9] (fun i wr => ∃ k : Nat, k ≤ len0 ∧ k ≤ 20 ∧ i = .int .i64 k ∧ Hid (Some' w.heap.size b w wr)) (fun i _ => len0 - (intOf i).toNat)
  case atStart => exact ⟨0, by omega, by omega, rfl, hf0⟩
  case round =>
    obtain ⟨k, hk, hk20, rfl, hfr⟩ := hrel
    clear hf0
    by_cases hlt : k < len0 ∧ k < 20
    · obtain ⟨hlt, hlt20⟩ := hlt
      obtain ⟨ad, rfl, hck⟩ := hrd0.out.int k hlt
      have hbel : Below w.heap.size w wr := by obtain ⟨_, _, h, _⟩ := hfr.out; exact h
      have hckr : wr.cell? (ad.add k) = some (.int .u16 (gi cs0 k)) := (hbel.cell (World.block_lt_of_cell? w _ hck)).trans hck
      clear hbel
      have hcall := some_add hfr.out h0 h8 (hu0.out.gi k)
      replace hcall := hide hcall
      go_wp2_with (go_at_call 9; refine hcall.out.mono ?_; rintro e w' ⟨rfl, hf1⟩)
      go_roundw
      case rel => exact ⟨k + 1, by omega, by omega, by go_num, hf1⟩
      case measure => simp [intOf]; omega
    · have hpa := power_all hfr.out h0 h8
      replace hpa := hide hpa
      have hcases : k = len0 ∨ (k < len0 ∧ k = 20) := by omega
      clear hfr
      rcases hcases with rfl | ⟨hk1, rfl⟩
      all_goals
        go_wp2_with (first
          | (go_at_call 14; refine hpa.out.mono ?_; rintro e wp ⟨rfl, hP⟩; obtain ⟨L, hq, hL, hbel, hsz⟩ := hP.out; clear hP; replace hL := hide hL; replace hbel := hide hbel; have hlist := list_some b n L _ wp h0 h8 hq; replace hlist := hide hlist; replace hq := hide hq)
          | (go_at_call 10; refine hlist.out.mono ?_; rintro e wl ⟨v, rfl, hrow, kl, ol⟩; rw [hL.out n.toNat (by omega)] at hrow; obtain ⟨A, cl, rfl, -, -⟩ := hrow.slice; replace kl := hide kl; clear hrow ol))
        have hP : Power w.heap.size b n w wl := ⟨L, [], hq.out.mod kl.out (by simp), hL.out _ (by omega), fun i hi _ => hL.out i hi, hbel.out.trans (kl.out.below hsz (by simp)), Nat.le_trans hsz kl.out.size⟩
        replace hP := hide hP
        clear hq kl hL hbel hlist hpa
        go_loopw [10] (fun i wr => ∃ k : Nat, k ≤ len1 ∧ k ≤ 20 ∧ i = .int .i64 k ∧ Hid (Power w.heap.size b n w wr)) (fun i _ => len1 - (intOf i).toNat)
        case atStart => exact ⟨0, by omega, by omega, rfl, hP⟩
        case round =>
          obtain ⟨j, hj, hj20, rfl, hpr⟩ := hrel
          clear hP
          by_cases hjl : j < len1 ∧ j < 20
          · obtain ⟨hjl, hj20⟩ := hjl
            obtain ⟨ad, rfl, hck⟩ := hrd1.out.int j hjl
            have hbel : Below w.heap.size w wr := by obtain ⟨_, _, _, _, _, h, _⟩ := hpr.out; exact h
            have hckr : wr.cell? (ad.add j) = some (.int .u16 (gi cs1 j)) := (hbel.cell (World.block_lt_of_cell? w _ hck)).trans hck
            clear hbel
            have hu := hu1.out.gi j
            have hquo : IntKind.u16.wrap ((gi cs1 j).tdiv 256) = gi cs1 j / 256 := by
              have := hu.1
              have := hu.2
              rw [Int.tdiv_eq_ediv_of_nonneg hu.1]
              exact IntWalk.u16_in _ (by omega)
            have hcall : gi cs1 j / 256 ≠ 41 → _ := fun h41 => power_add hpr.out h0 h8 hu h41
            replace hcall := hide hcall
            clear hu
            by_cases h41 : gi cs1 j / 256 = 41
            · have h41b : (gi cs1 j / 256 != 41) = false := by simpa using h41
              replace h41 := hide h41
              go_wp2_with fail
              go_roundw
              case rel => exact ⟨j + 1, by omega, by omega, by go_num, hpr⟩
              case measure => simp [intOf]; omega
            · have h41b : (gi cs1 j / 256 != 41) = true := by simpa using h41
              replace h41 := hide h41
              go_wp2_with (go_at_call 9; refine (hcall.out h41.out).mono ?_; rintro e w' ⟨rfl, hf1⟩)
              go_roundw
              case rel => exact ⟨j + 1, by omega, by omega, by go_num, hf1⟩
              case measure => simp [intOf]; omega
          · have hnext := power_next hpr.out h0 h8 hn20.out.1 hn20.out.2.1 hn20.out.2.2
            replace hnext := hide hnext
            clear hpr
            have hcases : j = len1 ∨ (j < len1 ∧ j = 20) := by omega
            rcases hcases with rfl | ⟨hj1, rfl⟩
            all_goals
              go_wp2_with (first
                | (go_at_call 12; (with_reducible refine hnext.out.mono ?_); rintro e w1 ⟨rfl, hn2c⟩; replace hn2c := hide hn2c.out)
                | (go_at_call 12; (with_reducible refine hn2c.out.mono ?_); rintro e w2 ⟨rfl, hbel⟩))
              go_ret
              exact ⟨rfl, hbel.out⟩

/-! ### THE ROW's STEP: WRITTEN OUT: LEAVE IT -/
set_option maxRecDepth 100000 in
theorem lifted (os : Os) (started : os.Started) (H : Type) (enc : TypeId × Value → H) :
    ReturnsInHanded {} Try.checked os 4 .any (Rows.attnPowerSpec.pre6 enc Try.prog Try.f4 Rows.attnPowerRow.domain false) (Rows.attnPowerSpec.post enc Try.prog Try.f4 false true false false) := by
  refine returnsInHanded_of_change (C := Try.checked) own started (by kernel_rfl) Try.func4
    (ChangeSpec.witness6 (enc := enc) (C := Try.checked) false ⟨#[], #[.slice none 0 0, .slice none 0 0, .int .u8 0], []⟩ 8 (by kernel_rfl) (by kernel_rfl) (by kernel_rfl) (by kernel_rfl)) ?_
  intro W base args ds gs before hval0 hW hcnd _
  have hval : ∀ (j : Nat) t v, Try.f4.params[j]? = some t → args[j]? = some v → Value.okWide Try.prog W .any base t v := hval0
  have hW' := hW
  obtain ⟨p, q, hA0, hV, rfl, hfz, hnd⟩ := hW
  have hA : DataW.TrodAll enc Try.prog W 0 (fun _ => true) true Try.f4.params.toList args.toList ds p := hA0
  rw [Try.params4] at hA hval
  obtain ⟨v0, vs0, d0, ds0, p0, q0, hargs, rfl, rfl, h0, r0⟩ := trodAll_cons hA
  obtain ⟨v1, vs1, d1, ds1, p1, q1, rfl, rfl, rfl, h1, r1⟩ := trodAll_cons r0
  obtain ⟨v2, vs2, d2, ds2, p2, q2, rfl, rfl, rfl, h2, r2⟩ := trodAll_cons r1
  obtain ⟨rfl, rfl, rfl⟩ := trodAll_nil r2
  obtain rfl : args = #[v0, v1, v2] := by cases args; simp_all
  obtain ⟨rfl, rfl⟩ := trodVars_none hV
  obtain ⟨a0, len0, cap0, rfl⟩ := okWide_slice Try.underlying22 (hval 0 22 v0 rfl rfl)
  have k0 := h0
  have lt0 : ∀ x ∈ p0, x.block < W.heap.size := by obtain ⟨m, hm⟩ := k0; exact DataW.trod_lt m _ _ _ hm
  obtain ⟨z0, w0⟩ : ∃ zs, IsRow .u16 W a0 len0 cap0 zs := by
    obtain ⟨fuel, hf⟩ := h0
    rcases open_ints Try.underlying22 Try.underlying27 (by kernel_rfl) hf with ⟨hcs, _⟩ | ⟨x, l, c, zs, hcs, _, hl, hm, hz, _, hcell, hwz⟩
    · simp [Value.cells] at hcs
      obtain ⟨rfl, rfl, rfl⟩ := hcs
      exact ⟨[], .inl ⟨rfl, rfl, rfl, rfl⟩⟩
    · simp [Value.cells] at hcs
      obtain ⟨rfl, rfl, rfl⟩ := hcs
      exact ⟨zs, .inr ⟨_, rfl, hl, hm, by simpa using hz, hcell, hwz⟩⟩
  obtain ⟨a1, len1, cap1, rfl⟩ := okWide_slice Try.underlying22 (hval 1 22 v1 rfl rfl)
  have k1 := h1
  have lt1 : ∀ x ∈ p1, x.block < W.heap.size := by obtain ⟨m, hm⟩ := k1; exact DataW.trod_lt m _ _ _ hm
  obtain ⟨z1, w1⟩ : ∃ zs, IsRow .u16 W a1 len1 cap1 zs := by
    obtain ⟨fuel, hf⟩ := h1
    rcases open_ints Try.underlying22 Try.underlying27 (by kernel_rfl) hf with ⟨hcs, _⟩ | ⟨x, l, c, zs, hcs, _, hl, hm, hz, _, hcell, hwz⟩
    · simp [Value.cells] at hcs
      obtain ⟨rfl, rfl, rfl⟩ := hcs
      exact ⟨[], .inl ⟨rfl, rfl, rfl, rfl⟩⟩
    · simp [Value.cells] at hcs
      obtain ⟨rfl, rfl, rfl⟩ := hcs
      exact ⟨zs, .inr ⟨_, rfl, hl, hm, by simpa using hz, hcell, hwz⟩⟩
  obtain ⟨a2, rfl, rfl, rfl, w2⟩ := open_int Try.underlying5 (hval 2 5 v2 rfl rfl) h2
  clear hA0 hval0
  refine (walk a0 len0 cap0 z0 a1 len1 cap1 z1 a2 W w0 w1 w2).mono fun e W' ⟨he, bel⟩ => ?_
  subst he
  exact ⟨_, rfl, _, _, _, [], _, [], hW', trodAll_mk1 (shut_bool Try.underlying4 _), (trodAll_cons_mk (Below.trod laidOut (by kernel_rfl) (of_decide_eq_true (by kernel_rfl)) k0 bel lt0) (trodAll_cons_mk (Below.trod laidOut (by kernel_rfl) (of_decide_eq_true (by kernel_rfl)) k1 bel lt1) (trodAll_cons_mk (shut_int Try.underlying5 w2) trodAll_mk0))), rfl, bel.frame _, fun h => by cases h⟩

theorem over : Rows.attnPowerRow.holds Try.pinned (OpenSpec.ofChange Rows.attnPowerSpec) :=
  OpenClaim.holds_of_wide 4 Try.f4 rfl rfl rfl rfl rfl rfl rfl ⟨rfl, rfl, rfl, rfl, rfl⟩ rfl rfl rfl rfl rfl (by kernel_rfl) Try.func4 (by kernel_rfl)
    (of_decide_eq_true (by kernel_rfl)) (by unfold Func.isWrapper; first | (rw [if_pos (by decide +kernel)]; kernel_rfl) | (rw [if_neg (by decide +kernel)]; exact ⟨rfl, rfl⟩))
    (fun os started H enc _ => lifted os started H enc)

/-- ████ THE STATEMENT ████ -/
theorem proved : Rows.AttnPowerSaid := over
#print axioms proved
end Go.Proofs.Ytkkhnolokabbgaa.attnPower
