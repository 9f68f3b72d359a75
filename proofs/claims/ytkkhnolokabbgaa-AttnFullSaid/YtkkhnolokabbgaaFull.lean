/-
  For every nexus number and every first code, AttnFull returns true and leaves its arguments as they were. No condition.
-/
import Derived.Test.YtkkhnolokabbgaaAll
import Derived.Test.YtkkhnolokabbgaaRows
import Derived.WalkKit
import Derived.ProofKit
import Derived.OpenShut
import Derived.ShutString
import Derived.ChangeOld
import Derived.Below
namespace Go.Proofs.Ytkkhnolokabbgaa.attnFull
open Go.ChangeShapes Go.WideShapes Go.ChangeAt Go.RowKit
open Go.ChangeMaps (open_string shut_string)
set_option linter.unusedVariables false      -- a walk need not use every 'w<i>' (that an integer argument fits its kind)

theorem own : ownKnob Try.prog.godebug = none := by kernel_rfl

theorem add_F (b : Nat) (n c : Int) (L : Nat → List Int) (F : Nat → Prop) (w : World) (h0 : 0 ≤ n) (h8 : n < 8) (hc16 : U16 c) (hF : ∀ k, w.heap.size ≤ k → F k) (hq : Q w b L F) :
    Calls Try.prog 9 #[.pointer (some ⟨b, 0, none⟩), .int .i64 n, .int .u16 c] w fun e w' => e = .returned (.tuple #[]) ∧ Q w' b (put L n.toNat (addL (L n.toNat) c)) F ∧ Mod F w w' :=
  (add_some b n c L F w h0 h8 hc16 hq).mono fun _ _ ⟨he, h1, h2⟩ => ⟨he, h1.grow hF, h2⟩

/-- Behind the filling: what each of the last five calls answers, one behind the other. -/
theorem full_seq {B b : Nat} {n y : Int} {w wl : World} {L : Nat → List Int} {v : Value} (hq : Q w b L (fun k => B ≤ k)) (hL : L n.toNat = eight (12288 + y)) (hk : Keep w wl)
    (hv : ∀ k, v.ownBlock = some k → w.heap.size ≤ k ∧ k < wl.heap.size) (hB : B ≤ w.heap.size) (h0 : 0 ≤ n) (h8 : n < 8) (hy : 0 ≤ y) :
    Calls Try.prog 12 #[.pointer (some ⟨b, 0, none⟩), .int .i64 n] wl fun e w2 => e = .returned (.tuple #[.int .u16 (12288 + y), .bool true]) ∧ Hid (
    Calls Try.prog 9 #[.pointer (some ⟨b, 0, none⟩), .int .i64 n, .int .u16 12032] w2 fun e w3 => e = .returned (.tuple #[]) ∧ Hid (
    Calls Try.prog 11 #[.pointer (some ⟨b, 0, none⟩), .int .i64 n] w3 fun e w4 => e = .returned (.tuple #[.int .u16 12032, .bool true]) ∧ Hid (
    Calls Try.prog 9 #[.pointer (some ⟨b, 0, none⟩), .int .i64 n, .int .u16 12033] w4 fun e w5 => e = .returned (.tuple #[]) ∧ Hid (Mod (fun k => B ≤ k ∧ v.ownBlock ≠ some k) wl w5) ∧ Hid (
    Calls Try.prog 10 #[.pointer (some ⟨b, 0, none⟩), .int .i64 n] w5 fun e w6 => ∃ A c, e = .returned (.slice A 8 c) ∧ Hid (Below B wl w6))))) := by
  have hF0 : ∀ k, wl.heap.size ≤ k → B ≤ k ∧ v.ownBlock ≠ some k := fun k hk' => ⟨Nat.le_trans hB (Nat.le_trans hk.size hk'), fun e => by have := (hv k e).2; omega⟩
  have hq1 : Q wl b L (fun k => B ≤ k ∧ v.ownBlock ≠ some k) := (hq.bound.mod hk (by simp)).mono fun k hk => ⟨hk.1, fun e => by have := (hv k e).1; omega⟩
  refine (next_some b n L _ wl h0 h8 hq1 0 (by rw [hL]; exact eight_fi _ (by omega))).mono fun e w2 ⟨he2, h2, m2⟩ => ⟨?_, hide ?_⟩
  · rw [he2, hL]; rfl
  have s2 : ∀ k, w2.heap.size ≤ k → B ≤ k ∧ v.ownBlock ≠ some k := fun k hk => hF0 k (Nat.le_trans m2.size hk)
  refine (add_F b n 12032 _ _ w2 h0 h8 ⟨by decide, by decide⟩ s2 (h2.grow hF0)).mono fun e w3 ⟨he3, h3, m3⟩ => ⟨he3, hide ?_⟩
  have e3 : put (put L n.toNat ((L n.toNat).take 0 ++ (L n.toNat).drop (0 + 1))) n.toNat (addL (put L n.toNat ((L n.toNat).take 0 ++ (L n.toNat).drop (0 + 1)) n.toNat) 12032) n.toNat = seven (12288 + y) ++ [12032] := by
    simp only [put, if_true, hL]
    exact seven_add _ (by omega)
  generalize put (put L n.toNat ((L n.toNat).take 0 ++ (L n.toNat).drop (0 + 1))) n.toNat (addL (put L n.toNat ((L n.toNat).take 0 ++ (L n.toNat).drop (0 + 1)) n.toNat) 12032) = L3 at *
  have s3 : ∀ k, w3.heap.size ≤ k → B ≤ k ∧ v.ownBlock ≠ some k := fun k hk => s2 k (Nat.le_trans m3.size hk)
  refine (peek_some b n L3 _ w3 h0 h8 h3 (by rw [e3]; simp [seven])).mono fun e w4 ⟨he4, m, h4⟩ => ⟨?_, hide ?_⟩
  · rw [he4, e3, seven_fi _ (by omega)]; rfl
  subst h4
  refine (add_F b n 12033 _ _ (w3.drewN m) h0 h8 ⟨by decide, by decide⟩ s3 (h3.drewN m)).mono fun e w5 ⟨he5, h5, m5⟩ => ⟨he5, hide ?_, hide ?_⟩
  · exact ((m2.trans m3 fun _ _ h => h).drewN m).trans m5 fun _ _ h => h
  have e5 : put L3 n.toNat (addL (L3 n.toNat) 12033) n.toNat = seven (12288 + y) ++ [12032] := by
    simp only [put, if_true, e3]
    exact seven_full _
  refine (list_some b n _ _ w5 h0 h8 h5).mono fun e w6 ⟨u, he6, h6, m6, _⟩ => ?_
  rw [e5] at h6
  obtain ⟨A, c, hu, _, _⟩ := h6.slice
  subst hu
  refine ⟨A, c, he6, hide ?_⟩
  have mm := ((m2.trans m3 fun _ _ h => h).drewN m).trans m5 fun _ _ h => h
  exact (mm.below (Nat.le_trans hB hk.size) fun k hk => hk.1).trans (m6.below (Nat.le_trans hB (Nat.le_trans hk.size mm.size)) fun k hk => hk.elim)

set_option maxRecDepth 100000 in
set_option maxHeartbeats 2000000 in
theorem walk (a0 : Int) (a1 : Int) (w0 : (Lit.int .u8 a0).wf = true) (w1 : (Lit.int .u16 a1).wf = true) (w : World) :
    Calls Try.prog 5 #[.int .u8 a0, .int .u16 a1] w fun e w' => e = .returned (.bool true) ∧ Below w.heap.size w w' := by
  have hb0 := bounds_u8 w0
  have hb1 := bounds_u16 w1
  clear w0 w1
  obtain ⟨n, hn⟩ : ∃ n : Int, n = a0 % 8 := ⟨_, rfl⟩
  have hn0 : 0 ≤ n ∧ n < 8 := by omega
  obtain ⟨h0, h8⟩ := hn0
  have hmod : a0.tmod 8 = n := by rw [hn]; exact Int.tmod_eq_emod_of_nonneg hb0.1
  have hmod2 : a0 % 8 = n := hn.symm
  clear hn
  obtain ⟨y, hy⟩ : ∃ y : Int, y = a1 % 4096 := ⟨_, rfl⟩
  have hy0 : 0 ≤ y ∧ y < 4096 := by omega
  obtain ⟨hy0, hy1⟩ := hy0
  have hmod3 : a1.tmod 4096 = y := by rw [hy]; exact Int.tmod_eq_emod_of_nonneg hb1.1
  have hmod4 : a1 % 4096 = y := hy.symm
  clear hy
  go_enter Try.func5, Try.ntmps5
  go_wp2_with (first
    | (go_at_call 7; refine (awake_big w.heap.size w (Nat.le_refl _)).mono ?_; rintro e wa ⟨rfl, ba⟩; replace ba := hide ba)
    | (go_at_call 8; refine (new_big w.heap.size _ ba.out.size).mono ?_; rintro e wb ⟨rfl, hq, bb⟩; replace hq := hide hq; replace bb := hide bb))
  have hf0 : Hid (Q wb wa.heap.size (put (fun _ => []) n.toNat (runL (12288 + y) 0)) (fun k => w.heap.size ≤ k) ∧ Below w.heap.size w wb) :=
    hide ⟨hq.out.congr fun i _ => by simp only [put]; split <;> rfl, ba.out.trans bb.out⟩
  generalize wa.heap.size = b at *
  clear ba bb hq
  have hsh : Hid (∀ W k, k < 12 → Q W b (put (fun _ => []) n.toNat (runL (12288 + y) k)) (fun k => w.heap.size ≤ k) ∧ Below w.heap.size w W →
      Calls Try.prog 9 #[.pointer (some ⟨b, 0, none⟩), .int .i64 n, .int .u16 (12288 + y + (k : Int))] W fun e W' => e = .returned (.tuple #[]) ∧
        Hid (Q W' b (put (fun _ => []) n.toNat (runL (12288 + y) (k + 1))) (fun k => w.heap.size ≤ k) ∧ Below w.heap.size w W')) :=
    hide fun W k hk hW => (add_big b w.heap.size n (12288 + y + (k : Int)) _ W h0 h8 ⟨by omega, by omega⟩ hW.2.size hW.1).mono fun e W' ⟨he, h1, h2⟩ =>
      ⟨he, hide ⟨h1.congr fun i _ => by
        simp only [put, if_true]
        split
        · rw [runL_add _ _ (by omega)]
        · rfl, hW.2.trans h2⟩⟩
  go_loopw [7] (fun i wr => ∃ k : Nat, k ≤ 12 ∧ i = .int .u16 k ∧ Hid (Q wr b (put (fun _ => []) n.toNat (runL (12288 + y) k)) (fun k => w.heap.size ≤ k) ∧ Below w.heap.size w wr)) (fun i _ => 12 - (intOf i).toNat)
  case atStart => exact ⟨0, by omega, rfl, hf0⟩
  case round =>
    obtain ⟨k, hk, rfl, hfr⟩ := hrel
    clear hf0
    by_cases hlt : k < 12
    · have hcall := hsh.out wr k hlt hfr.out
      replace hcall := hide hcall
      go_wp2_with (go_at_call 9; (with_reducible refine hcall.out.mono ?_); rintro e w' ⟨rfl, hf1⟩)
      go_roundw
      case rel => exact ⟨k + 1, by omega, by go_num, hf1⟩
      case measure => simp [intOf]; omega
    · obtain rfl : k = 12 := by omega
      obtain ⟨hq, hbel⟩ := hfr.out
      clear hfr hsh
      rw [runL_eight] at hq
      have e1 : put (fun _ => []) n.toNat (eight (12288 + y)) n.toNat = eight (12288 + y) := by simp [put]
      have hlist := list_some b n _ _ wr h0 h8 hq
      rw [e1] at hlist
      replace hlist := hide hlist
      replace hq := hide hq
      replace hbel := hide hbel
      replace e1 := hide e1
      go_wp2_with (go_at_call 10; (with_reducible refine hlist.out.mono ?_); rintro e wl ⟨v, rfl, hrow, kl, ol⟩; obtain ⟨A, cl, hv, -, -⟩ := hrow.slice; replace hv : v = .slice A 8 cl := hv; subst hv; replace hrow := hide hrow; replace kl := hide kl; replace ol := hide ol)
      have hseq := full_seq hq.out e1.out kl.out (fun k hk => ⟨ol.out k hk, hrow.out.lt k hk⟩) (hbel.out.size) h0 h8 hy0
      have hrd := hrow.out.rd (ic_len _) rfl
      have hbl : Below w.heap.size w wl := hbel.out.trans (kl.out.below hbel.out.size (by simp))
      have hkeep : ∀ W, Mod (fun k => w.heap.size ≤ k ∧ (Value.slice A 8 cl).ownBlock ≠ some k) wl W → Rd W 1 (ic .u16) A 8 (eight (12288 + y)) :=
        fun W hm => hrd.mod hm fun ad e hf => by subst e; exact hf.2 rfl
      have hcells : ∀ W (j : Nat), Rd W 1 (ic .u16) A 8 (eight (12288 + y)) → j < 8 → ∃ ad, A = some ad ∧ W.cell? (ad.add j) = some (.int .u16 (12288 + y + (j : Int))) := fun W j h hj => by
        obtain ⟨ad, e, hc⟩ := h.int j hj
        rw [eight_gi _ _ hj] at hc
        exact ⟨ad, e, hc⟩
      replace hseq := hide hseq
      replace hrd := hide hrd
      replace hbl := hide hbl
      replace hkeep := hide hkeep
      replace hcells := hide hcells
      clear hq hrow kl ol hbel hlist e1
      go_loop [9] (fun i => ∃ j : Nat, j ≤ 8 ∧ i = .int .i64 j) (fun i => 8 - (intOf i).toNat)
      case atStart => exact ⟨0, by omega, rfl⟩
      case round =>
        obtain ⟨j, hj, rfl⟩ := hrel
        by_cases hlt : j < 8
        · obtain ⟨ad, rfl, hc⟩ := hcells.out _ j hrd.out hlt
          go_wp2_with fail
          exact ⟨⟨j + 1, by omega, by go_num⟩, by simp [intOf]; omega⟩
        · obtain rfl : j = 8 := by omega
          obtain ⟨ad, rfl, -⟩ := hcells.out _ 0 hrd.out (by decide)
          go_wp2_with (first
            | (go_at_call 12; (with_reducible refine hseq.out.mono ?_); rintro e w2 ⟨rfl, q2⟩; replace q2 := hide q2.out)
            | (go_at_call 9; (with_reducible refine q2.out.mono ?_); rintro e w3 ⟨rfl, q3⟩; replace q3 := hide q3.out)
            | (go_at_call 11; (with_reducible refine q3.out.mono ?_); rintro e w4 ⟨rfl, q4⟩; replace q4 := hide q4.out)
            | (go_at_call 9; (with_reducible refine q4.out.mono ?_); rintro e w5 ⟨rfl, m5, q5⟩; replace q5 := hide q5.out; obtain ⟨ad', e', hc0⟩ := hcells.out _ 0 (hkeep.out _ m5.out) (by decide); obtain rfl : ad = ad' := (by simpa using e'); clear e'; have hc1 : w5.cell? ad = some (.int .u16 (12288 + y)) := (by simpa [Addr.add] using hc0); clear hc0)
            | (go_at_call 10; (with_reducible refine q5.out.mono ?_); rintro e w6 ⟨A6, c6, rfl, b6⟩))
          go_ret
          exact ⟨rfl, hbl.out.trans b6.out⟩

/-! ### THE ROW's STEP: WRITTEN OUT: LEAVE IT -/
set_option maxRecDepth 100000 in
theorem lifted (os : Os) (started : os.Started) (H : Type) (enc : TypeId × Value → H) :
    ReturnsInHanded {} Try.checked os 5 .any (Rows.attnFullSpec.pre6 enc Try.prog Try.f5 Rows.attnFullRow.domain false) (Rows.attnFullSpec.post enc Try.prog Try.f5 false true false false) := by
  refine returnsInHanded_of_change (C := Try.checked) own started (by kernel_rfl) Try.func5
    (ChangeSpec.witness6 (enc := enc) (C := Try.checked) false ⟨#[], #[.int .u8 0, .int .u16 0], []⟩ 8 (by kernel_rfl) (by kernel_rfl) (by kernel_rfl) (by kernel_rfl)) ?_
  intro W base args ds gs before hval0 hW hcnd _
  have hval : ∀ (j : Nat) t v, Try.f5.params[j]? = some t → args[j]? = some v → Value.okWide Try.prog W .any base t v := hval0
  have hW' := hW
  obtain ⟨p, q, hA0, hV, rfl, hfz, hnd⟩ := hW
  have hA : DataW.TrodAll enc Try.prog W 0 (fun _ => true) true Try.f5.params.toList args.toList ds p := hA0
  rw [Try.params5] at hA hval
  obtain ⟨v0, vs0, d0, ds0, p0, q0, hargs, rfl, rfl, h0, r0⟩ := trodAll_cons hA
  obtain ⟨v1, vs1, d1, ds1, p1, q1, rfl, rfl, rfl, h1, r1⟩ := trodAll_cons r0
  obtain ⟨rfl, rfl, rfl⟩ := trodAll_nil r1
  obtain rfl : args = #[v0, v1] := by cases args; simp_all
  obtain ⟨rfl, rfl⟩ := trodVars_none hV
  obtain ⟨a0, rfl, rfl, rfl, w0⟩ := open_int Try.underlying5 (hval 0 5 v0 rfl rfl) h0
  obtain ⟨a1, rfl, rfl, rfl, w1⟩ := open_int Try.underlying27 (hval 1 27 v1 rfl rfl) h1
  clear hA0 hval0
  refine (walk a0 a1 w0 w1 W).mono fun e W' ⟨he, bel⟩ => ?_
  subst he
  exact ⟨_, rfl, _, _, _, [], _, [], hW', trodAll_mk1 (shut_bool Try.underlying4 _), (trodAll_cons_mk (shut_int Try.underlying5 w0) (trodAll_cons_mk (shut_int Try.underlying27 w1) trodAll_mk0)), rfl, bel.frame _, fun h => by cases h⟩

theorem over : Rows.attnFullRow.holds Try.pinned (OpenSpec.ofChange Rows.attnFullSpec) :=
  OpenClaim.holds_of_wide 5 Try.f5 rfl rfl rfl rfl rfl rfl rfl ⟨rfl, rfl, rfl, rfl, rfl⟩ rfl rfl rfl rfl rfl (by kernel_rfl) Try.func5 (by kernel_rfl)
    (of_decide_eq_true (by kernel_rfl)) (by unfold Func.isWrapper; first | (rw [if_pos (by decide +kernel)]; kernel_rfl) | (rw [if_neg (by decide +kernel)]; exact ⟨rfl, rfl⟩))
    (fun os started H enc _ => lifted os started H enc)

/-- ████ THE STATEMENT ████ -/
theorem proved : Rows.AttnFullSaid :=
  over
#print axioms proved
end Go.Proofs.Ytkkhnolokabbgaa.attnFull
