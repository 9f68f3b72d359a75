/-
  For every nexus number and every list of codes, AttnDrains returns true and leaves its arguments as they were. No condition.
-/
import Derived.Test.YtkkhnolokabbgaaAll
import Derived.Test.YtkkhnolokabbgaaRows
import Derived.WalkKit
import Derived.ProofKit
import Derived.OpenShut
import Derived.ShutString
import Derived.ChangeOld
import Derived.Below
namespace Go.Proofs.Ytkkhnolokabbgaa.attnDrains
open Go.ChangeShapes Go.WideShapes Go.ChangeAt Go.RowKit
open Go.ChangeMaps (open_string shut_string)
set_option linter.unusedVariables false

theorem own : ownKnob Try.prog.godebug = none := by kernel_rfl
theorem laidOut : laidOutB Try.prog = true := by kernel_rfl

/-- WHAT THE WALK IS TOLD OF A SLICE OF INTEGERS THAT CAME IN: it is nil; or it leads to a row of 'cap' cells, the numbers 'zs' (the first 'len' are its elements, the rest its spare room), each fitting its kind. -/
def IsRow (k : IntKind) (w : World) (a : Option Addr) (len cap : Nat) (zs : List Int) : Prop :=
  (a = none ∧ len = 0 ∧ cap = 0 ∧ zs = []) ∨
  ∃ x, a = some x ∧ len ≤ cap ∧ cap ≤ maxLen ∧ zs.length = cap ∧ (∀ i, i < zs.length → w.cell? (x.add i) = some (.int k (zs.getD i 0))) ∧ ∀ n ∈ zs, (Lit.int k n).wf = true

theorem rd_of_row {w : World} {a : Option Addr} {len cap : Nat} {zs : List Int} (h : IsRow .u16 w a len cap zs) : ∃ l, Rd w 1 (ic .u16) a len l ∧ All16 l := by
  rcases h with ⟨rfl, rfl, rfl, rfl⟩ | ⟨x, rfl, hl, _, hz, hc, hw⟩
  · exact ⟨[], Rd.none_ _ _ _ _, fun c hc => by cases hc⟩
  · refine ⟨zs.take len, rd_ints (by simp; omega) fun i hi => ⟨x, rfl, ?_⟩, fun c hc => ?_⟩
    · rw [hc i (by omega)]
      simp [Ytkkhnolokabbgaa.gi, List.getD_eq_getElem?_getD, hi]
    · have := bounds_u16 (hw c (List.mem_of_mem_take hc))
      exact ⟨by omega, by omega⟩

/-- What the first loop leaves. -/
def Filled (B b : Nat) (n : Int) (w w' : World) : Prop := ∃ L, Q w' b L (fun k => B ≤ k) ∧ (∀ i, i ≠ n.toNat → L i = []) ∧ (L n.toNat).Nodup ∧ Below B w w' ∧ B ≤ w'.heap.size

theorem filled_add {B b : Nat} {n c : Int} {w w1 : World} (h : Filled B b n w w1) (h0 : 0 ≤ n) (h8 : n < 8) (hc : U16 c) :
    Calls Try.prog 9 #[.pointer (some ⟨b, 0, none⟩), .int .i64 n, .int .u16 c] w1 fun e w' => e = .returned (.tuple #[]) ∧ Hid (Filled B b n w w') := by
  obtain ⟨L, hq, hn, hd, hb, hs⟩ := h
  refine (add_big b B n c L w1 h0 h8 hc hs hq).mono fun e w' ⟨he, h1, h2⟩ => ⟨he, hide ⟨_, h1, fun i hi => ?_, ?_, hb.trans h2, Nat.le_trans hs h2.size⟩⟩
  · simp only [put, if_neg hi]; exact hn i hi
  · simp only [put, if_true]; exact addL_nodup hd c

/-- What stands at the head of each round of the second loop: i have been told of l, L n still waits. -/
def Drained (F : Nat → Prop) (b : Nat) (n : Int) (l : List Int) (i : Nat) (last : Int) (w w' : World) : Prop :=
  ∃ L, Q w' b L F ∧ (∀ i, i ≠ n.toNat → L i = []) ∧ (L n.toNat).length + i = l.length ∧ (∀ x ∈ L n.toNat, x ∈ l ∧ last ≤ rk x) ∧ Mod F w w' ∧ ∀ k, w.heap.size ≤ k → F k

theorem drained_start {B b : Nat} {n : Int} {L : Nat → List Int} {w w' : World} {v : Value} (hq : Q w b L (fun k => B ≤ k)) (hL : ∀ i, i ≠ n.toNat → L i = []) (hk : Keep w w')
    (hv : ∀ k, v.ownBlock = some k → w.heap.size ≤ k ∧ k < w'.heap.size) (hB : B ≤ w.heap.size) :
    Drained (fun k => B ≤ k ∧ v.ownBlock ≠ some k) b n (L n.toNat) 0 (-1) w' w' := by
  refine ⟨L, ((hq.bound.mod hk (by simp)).mono fun k hk => ⟨hk.1, fun e => ?_⟩), hL, by simp, fun x hx => ⟨hx, ?_⟩, Mod.refl _ _, fun k hk' => ⟨Nat.le_trans hB (Nat.le_trans hk.size hk'), fun e => ?_⟩⟩
  · have := (hv k e).1
    omega
  · unfold rk
    split
    · decide
    · split
      · decide
      · split <;> decide
  · have := (hv k e).2
    omega

/-- One round: what is peeked, taken, and what it leaves. -/
theorem drained_step {F : Nat → Prop} {b : Nat} {n : Int} {l : List Int} {i : Nat} {last : Int} {w w' : World} (h : Drained F b n l i last w w') (h0 : 0 ≤ n) (h8 : n < 8) (hi : i < l.length) :
    ∃ c, c ∈ l ∧ last ≤ rk c ∧ U16 c ∧
      (Calls Try.prog 11 #[.pointer (some ⟨b, 0, none⟩), .int .i64 n] w' fun e w1 => e = .returned (.tuple #[.int .u16 c, .bool true]) ∧ ∃ m, w1 = w'.drewN m) ∧
      (∀ m, Calls Try.prog 12 #[.pointer (some ⟨b, 0, none⟩), .int .i64 n] (w'.drewN m) fun e w1 => e = .returned (.tuple #[.int .u16 c, .bool true]) ∧ Hid (Drained F b n l (i + 1) (rk c) w w1)) := by
  obtain ⟨L, hq, hL, hlen, hx, hm, hF⟩ := h
  have hpos : 0 < (L n.toNat).length := by omega
  obtain ⟨f1, f2, f3⟩ := fi_lt (L n.toNat) (L n.toNat).length
  obtain ⟨j, hj⟩ : ∃ j : Nat, fi (L n.toNat) (L n.toNat).length = (j : Int) := ⟨(fi (L n.toNat) (L n.toNat).length).toNat, by have := f3 hpos; omega⟩
  have hjl : j < (L n.toNat).length := by omega
  have hc : gi (L n.toNat) j ∈ L n.toNat := gi_mem hjl
  refine ⟨gi (L n.toNat) j, (hx _ hc).1, (hx _ hc).2, hq.all16 _ (by omega) _ hc, ?_, fun m => ?_⟩
  · have := peek_some b n L F w' h0 h8 hq hpos
    rw [hj, Int.toNat_natCast] at this
    exact this
  · refine (next_some b n L F _ h0 h8 (hq.drewN m) j hj).mono fun e w1 ⟨he, h1, h2⟩ => ⟨he, hide ⟨_, h1.grow fun k hk => hF k (Nat.le_trans hm.size hk), fun k hk => ?_, ?_, fun x hx' => ?_, ?_, hF⟩⟩
    · simp only [put, if_neg hk]; exact hL k hk
    · simp only [put, if_true]
      have := cut_length hjl
      omega
    · simp only [put, if_true] at hx'
      have hxm := mem_cut hx'
      refine ⟨(hx x hxm).1, ?_⟩
      obtain ⟨k, hk, e⟩ := mem_gi hxm
      have := fi_min (L n.toNat) (L n.toNat).length k hk
      rw [hj, Int.toNat_natCast, e] at this
      exact this
    · exact (hm.drewN m).trans h2 fun _ _ h => h

set_option maxRecDepth 100000 in
set_option maxHeartbeats 2000000 in
theorem walk (a0 : Int) (a1 : Option Addr) (len1 cap1 : Nat) (z1 : List Int) (w : World) (w0 : (Lit.int .u8 a0).wf = true) (w1 : IsRow .u16 w a1 len1 cap1 z1) :
    Calls Try.prog 3 #[.int .u8 a0, .slice a1 len1 cap1] w fun e w' => e = .returned (.bool true) ∧ Below w.heap.size w w' := by
  obtain ⟨codes, hrd, hu⟩ := rd_of_row w1
  have hb0 := bounds_u8 w0
  clear w0 w1
  obtain ⟨n, hn⟩ : ∃ n : Int, n = a0 % 8 := ⟨_, rfl⟩
  have hn0 : 0 ≤ n ∧ n < 8 := by omega
  obtain ⟨h0, h8⟩ := hn0
  have hmod : a0.tmod 8 = n := by rw [hn]; exact Int.tmod_eq_emod_of_nonneg hb0.1
  have hmod2 : a0 % 8 = n := hn.symm
  clear hn
  obtain ⟨n2, hn2⟩ : ∃ n2 : Int, n2 = (n + 1) % 8 := ⟨_, rfl⟩
  have hn20 : 0 ≤ n2 ∧ n2 < 8 ∧ n2.toNat ≠ n.toNat := by omega
  have hmod3 : (n + 1).tmod 8 = n2 := by rw [hn2]; exact Int.tmod_eq_emod_of_nonneg (by omega)
  have hmod4 : (n + 1) % 8 = n2 := hn2.symm
  clear hn2
  replace hn20 := hide hn20
  replace hrd := hide hrd
  replace hu := hide hu
  go_enter Try.func3, Try.ntmps3
  go_wp2_with (first
    | (go_at_call 7; refine (awake_big w.heap.size w (Nat.le_refl _)).mono ?_; rintro e wa ⟨rfl, ba⟩; replace ba := hide ba)
    | (go_at_call 8; refine (new_big w.heap.size _ ba.out.size).mono ?_; rintro e wb ⟨rfl, hq, bb⟩; replace hq := hide hq; replace bb := hide bb))
  have hf0 : Filled w.heap.size wa.heap.size n w wb := ⟨_, hq.out, fun _ _ => rfl, by simp, ba.out.trans bb.out, Nat.le_trans ba.out.size bb.out.size⟩
  generalize wa.heap.size = b at *
  clear ba bb hq
  replace hf0 := hide hf0
  go_loopw [8] (fun i wr => ∃ k : Nat, k ≤ len1 ∧ k ≤ 50 ∧ i = .int .i64 k ∧ Hid (Filled w.heap.size b n w wr)) (fun i _ => len1 - (intOf i).toNat)
  case atStart => exact ⟨0, by omega, by omega, rfl, hf0⟩
  case round =>
    obtain ⟨k, hk, hk50, rfl, hfr⟩ := hrel
    clear hf0
    by_cases hlt : k < len1 ∧ k < 50
    · obtain ⟨hlt, hlt50⟩ := hlt
      obtain ⟨ad, rfl, hck⟩ := hrd.out.int k hlt
      have hbel : Below w.heap.size w wr := by obtain ⟨_, _, _, _, h, _⟩ := hfr.out; exact h
      have hckr : wr.cell? (ad.add k) = some (.int .u16 (gi codes k)) := (hbel.cell (World.block_lt_of_cell? w _ hck)).trans hck
      replace hbel := hide hbel
      have hcall := filled_add hfr.out h0 h8 (hu.out.gi k)
      replace hcall := hide hcall
      go_wp2_with (go_at_call 9; refine hcall.out.mono ?_; rintro e w' ⟨rfl, hf1⟩)
      go_roundw
      case rel => exact ⟨k + 1, by omega, by omega, by go_num, hf1⟩
      case measure => simp [intOf]; omega
    · have hlf : (decide ((k : Int) < (len1 : Int)) && decide ((k : Int) < 50)) = false := by
        simp only [Bool.and_eq_false_iff, decide_eq_false_iff_not]
        omega
      obtain ⟨L, hq, hL, hnd, hbel, hsz⟩ := hfr.out
      clear hfr
      replace hL := hide hL
      replace hnd := hide hnd
      replace hbel := hide hbel
      have hlist := list_some b n L _ wr h0 h8 hq
      replace hlist := hide hlist
      replace hq := hide hq
      have hcases : k = len1 ∨ (k < len1 ∧ k = 50) := by omega
      rcases hcases with rfl | ⟨hk1, rfl⟩
      all_goals
        go_wp2_with (go_at_call 10; refine hlist.out.mono ?_; rintro e wl ⟨v, rfl, hrow, kl, ol⟩; obtain ⟨A, cl, rfl, hcl, -⟩ := hrow.slice; replace hrow := hide hrow; replace kl := hide kl; replace ol := hide ol)
        have hd0 := drained_start hq.out hL.out kl.out (fun k hk => ⟨ol.out k hk, hrow.out.lt k hk⟩) hsz
        have hrd2 := hrow.out.rd (ic_len _) rfl
        have hl8 := hq.out.len8 n.toNat (by omega)
        have hbl : Below w.heap.size w wl := hbel.out.trans (kl.out.below hsz (by simp))
        have hog : ∀ k, (Value.slice A (L n.toNat).length cl).ownBlock = some k → w.heap.size ≤ k := fun k hk => Nat.le_trans hsz (ol.out k hk)
        clear hrow kl ol hbel hq hL hlist
        generalize L n.toNat = l at *
        generalize hF : (fun k => w.heap.size ≤ k ∧ (Value.slice A l.length cl).ownBlock ≠ some k) = F at *
        replace hd0 := hide hd0
        replace hrd2 := hide hrd2
        replace hbl := hide hbl
        replace hF := hide hF
        replace hog := hide hog
        obtain ⟨len, hlen⟩ : ∃ len, len = l.length := ⟨_, rfl⟩
        rw [← hlen] at hl8 ⊢
        have hlen2 := hide hlen
        clear hlen
        go_loopw [10, 11] (fun u i wr => ∃ (k : Nat) (last : Int), k ≤ len ∧ i = .int .i64 k ∧ u = .int .i64 last ∧ Hid (Drained F b n l k last wl wr)) (fun _ i _ => len - (intOf i).toNat)
        case atStart => exact ⟨0, -1, by omega, rfl, rfl, hd0⟩
        case round =>
          obtain ⟨j, last, hj, rfl, rfl, hdr⟩ := hrel
          clear hd0
          by_cases hjl : j < len
          · obtain ⟨c, hcl, hcr, hcu, hpeek, hnext⟩ := drained_step hdr.out h0 h8 (by rw [← hlen2.out]; exact hjl)
            replace hpeek := hide hpeek
            replace hnext := hide hnext
            replace hcl := hide hcl
            have hnlt : decide (rk c < last) = false := by simp; exact hcr
            clear hdr
            go_wp2_with (first
              | (go_at_call 11; refine hpeek.out.mono ?_; rintro e wp ⟨rfl, m, rfl⟩)
              | (go_at_call 12; refine (hnext.out _).mono ?_; rintro e wn ⟨rfl, hdr⟩)
              | (go_at_call 13; refine (rank_ref _ _ hcu).mono ?_; rintro e w' ⟨rfl, rfl⟩))
            have hrd3 : Rd wn 1 (ic .u16) A len l := by
              obtain ⟨_, _, _, _, _, hm, _⟩ := hdr.out
              rw [hlen2.out]
              refine hrd2.out.mod hm fun ad e hf => ?_
              rw [← hF.out] at hf
              subst e
              exact hf.2 rfl
            replace hrd3 := hide hrd3
            obtain ⟨wo, hwo⟩ : ∃ wo : World, wo = wn := ⟨_, rfl⟩
            subst hwo
            go_loop [16, 17] (fun u i => ∃ q : Nat, q ≤ len ∧ i = .int .i64 q ∧ u = .int .i64 ((l.take q).count c : Nat)) (fun _ i => len - (intOf i).toNat)
            case atStart => exact ⟨0, by omega, rfl, rfl⟩
            case round =>
              obtain ⟨q, hq, rfl, rfl⟩ := hrel
              by_cases hql : q < len
              · obtain ⟨adl, rfl, hcq⟩ := hrd3.out.int q hql
                have hcnt := take_count l c q (by rw [← hlen2.out]; exact hql)
                have hcb : (l.take q).count c ≤ q := by
                  refine Nat.le_trans List.count_le_length ?_
                  simp
                  omega
                replace hcnt := hide hcnt
                generalize hcc : (l.take q).count c = cc at *
                replace hcc := hide hcc
                by_cases he : gi l q = c
                · have heb : (gi l q == c) = true := by simpa using he
                  replace he := hide he
                  go_wp2
                  go_round
                  case rel => exact ⟨q + 1, by omega, by go_num, by rw [hcnt.out, if_pos he.out]; go_num⟩
                  case measure => simp [intOf]; omega
                · have heb : (gi l q == c) = false := by simpa using he
                  replace he := hide he
                  go_wp2
                  go_round
                  case rel => exact ⟨q + 1, by omega, by go_num, by rw [hcnt.out, if_neg he.out]; go_num⟩
                  case measure => simp [intOf]; omega
              · obtain rfl : q = len := by omega
                have h1 : (((l.take q).count c : Nat) : Int) = 1 := by
                  rw [List.take_of_length_le (by rw [hlen2.out]; omega)]
                  rw [count_one hnd.out hcl.out]; rfl
                rw [h1]
                clear h1
                go_wp2_with fail
                go_roundw
                case rel => exact ⟨j + 1, _, by omega, by go_num, rfl, hdr⟩
                case measure => simp [intOf]; omega
          · obtain rfl : j = len := by omega
            obtain ⟨L2, hq2, hL2, hln2, -, hm2, -⟩ := hdr.out
            have hnil : L2 n.toNat = [] := List.eq_nil_of_length_eq_zero (by have := hlen2.out; omega)
            have hnil2 : L2 n2.toNat = [] := hL2 _ hn20.out.2.2
            have c1 := next_empty b n L2 F wr h0 h8 hq2 hnil
            have c2 : ∀ m, _ := fun m => next_empty b n2 L2 F (wr.drewN m) hn20.out.1 hn20.out.2.1 (hq2.drewN m) hnil2
            have hbf : Below w.heap.size w wr := hbl.out.trans (hm2.below hbl.out.size fun k hk => by rw [← hF.out] at hk; exact hk.1)
            replace c1 := hide c1
            replace c2 := hide c2
            replace hbf := hide hbf
            clear hq2 hL2 hln2 hm2 hnil hnil2 hdr
            obtain ⟨wz, hwz⟩ : ∃ wz : World, wz = wr := ⟨_, rfl⟩
            subst hwz
            go_wp2_with (first
              | (go_at_call 12; (with_reducible refine c1.out.mono ?_); rintro e w' ⟨rfl, m1, rfl⟩)
              | (go_at_call 12; (with_reducible refine (c2.out _).mono ?_); rintro e w' ⟨rfl, m2, rfl⟩)
              | (go_at_call 12; (with_reducible refine (next_out none 0 _ (.inl rfl)).mono ?_); rintro e w' ⟨rfl, rfl⟩)
              | (go_at_call 10; (with_reducible refine (list_out none 0 _ (.inl rfl)).mono ?_); rintro e w' ⟨rfl, rfl⟩))
            go_ret
            exact ⟨rfl, below_drewN hbf.out _⟩

/-! ### THE ROW's STEP: WRITTEN OUT: LEAVE IT -/
set_option maxRecDepth 100000 in
theorem lifted (os : Os) (started : os.Started) (H : Type) (enc : TypeId × Value → H) :
    ReturnsInHanded {} Try.checked os 3 .any (Rows.attnDrainsSpec.pre6 enc Try.prog Try.f3 Rows.attnDrainsRow.domain false) (Rows.attnDrainsSpec.post enc Try.prog Try.f3 false true false false) := by
  refine returnsInHanded_of_change (C := Try.checked) own started (by kernel_rfl) Try.func3
    (ChangeSpec.witness6 (enc := enc) (C := Try.checked) false ⟨#[], #[.int .u8 0, .slice none 0 0], []⟩ 8 (by kernel_rfl) (by kernel_rfl) (by kernel_rfl) (by kernel_rfl)) ?_
  intro W base args ds gs before hval0 hW hcnd _
  have hval : ∀ (j : Nat) t v, Try.f3.params[j]? = some t → args[j]? = some v → Value.okWide Try.prog W .any base t v := hval0
  have hW' := hW
  obtain ⟨p, q, hA0, hV, rfl, hfz, hnd⟩ := hW
  have hA : DataW.TrodAll enc Try.prog W 0 (fun _ => true) true Try.f3.params.toList args.toList ds p := hA0
  rw [Try.params3] at hA hval
  obtain ⟨v0, vs0, d0, ds0, p0, q0, hargs, rfl, rfl, h0, r0⟩ := trodAll_cons hA
  obtain ⟨v1, vs1, d1, ds1, p1, q1, rfl, rfl, rfl, h1, r1⟩ := trodAll_cons r0
  obtain ⟨rfl, rfl, rfl⟩ := trodAll_nil r1
  obtain rfl : args = #[v0, v1] := by cases args; simp_all
  obtain ⟨rfl, rfl⟩ := trodVars_none hV
  obtain ⟨a0, rfl, rfl, rfl, w0⟩ := open_int Try.underlying5 (hval 0 5 v0 rfl rfl) h0
  obtain ⟨a1, len1, cap1, rfl⟩ := okWide_slice Try.underlying22 (hval 1 22 v1 rfl rfl)
  have k1 := h1
  have lt1 : ∀ x ∈ p1, x.block < W.heap.size := by obtain ⟨m, hm⟩ := k1; exact DataW.trod_lt m _ _ _ hm
  obtain ⟨z1, w1⟩ : ∃ zs, IsRow .u16 W a1 len1 cap1 zs := by
    obtain ⟨fuel, hf⟩ := h1
    rcases open_ints Try.underlying22 Try.underlying27 (by kernel_rfl) hf with ⟨hcs, _⟩ | ⟨x, l, c, zs, hcs, _, hl, hm, hz, _, hcell, hwz⟩
    · simp [Value.cells] at hcs
      obtain ⟨rfl, rfl, rfl⟩ := hcs
      exact ⟨[], .inl ⟨rfl, rfl, rfl, rfl⟩⟩
    · simp [Value.cells] at hcs
      obtain ⟨rfl, rfl, rfl⟩ := hcs
      exact ⟨zs, .inr ⟨_, rfl, hl, hm, by simpa using hz, hcell, hwz⟩⟩
  clear hA0 hval0
  refine (walk a0 a1 len1 cap1 z1 W w0 w1).mono fun e W' ⟨he, bel⟩ => ?_
  subst he
  exact ⟨_, rfl, _, _, _, [], _, [], hW', trodAll_mk1 (shut_bool Try.underlying4 _), (trodAll_cons_mk (shut_int Try.underlying5 w0) (trodAll_cons_mk (Below.trod laidOut (by kernel_rfl) (of_decide_eq_true (by kernel_rfl)) k1 bel lt1) trodAll_mk0)), rfl, bel.frame _, fun h => by cases h⟩

theorem over : Rows.attnDrainsRow.holds Try.pinned (OpenSpec.ofChange Rows.attnDrainsSpec) :=
  OpenClaim.holds_of_wide 3 Try.f3 rfl rfl rfl rfl rfl rfl rfl ⟨rfl, rfl, rfl, rfl, rfl⟩ rfl rfl rfl rfl rfl (by kernel_rfl) Try.func3 (by kernel_rfl)
    (of_decide_eq_true (by kernel_rfl)) (by unfold Func.isWrapper; first | (rw [if_pos (by decide +kernel)]; kernel_rfl) | (rw [if_neg (by decide +kernel)]; exact ⟨rfl, rfl⟩))
    (fun os started H enc _ => lifted os started H enc)

/-- ████ THE STATEMENT ████ -/
theorem proved : Rows.AttnDrainsSaid := over
#print axioms proved
end Go.Proofs.Ytkkhnolokabbgaa.attnDrains
