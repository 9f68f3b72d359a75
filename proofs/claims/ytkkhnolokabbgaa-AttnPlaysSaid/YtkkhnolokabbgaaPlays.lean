/-
  For every script of calls, AttnPlays returns true and leaves the script as it was. No condition.
-/
import Derived.Test.YtkkhnolokabbgaaPair
import Derived.Test.YtkkhnolokabbgaaOpen
namespace Go.Proofs.Ytkkhnolokabbgaa.attnPlays
open Go.ChangeShapes Go.WideShapes Go.ChangeAt Go.RowKit Go.Deep
set_option linter.unusedVariables false

theorem own : ownKnob Try.prog.godebug = none := by kernel_rfl
theorem laidOut : laidOutB Try.prog = true := by kernel_rfl

/-- A call of the script: its kind, its nexus, its code. -/
abbrev Act := Int × Int × Int
def encA (a : Act) : List Value := [.int .u8 a.1, .int .i64 a.2.1, .int .u16 a.2.2]
def WfA (a : Act) : Prop := (0 ≤ a.1 ∧ a.1 ≤ 255) ∧ (-9223372036854775808 ≤ a.2.1 ∧ a.2.1 ≤ 9223372036854775807) ∧ U16 a.2.2

theorem open_act {H : Type} {tok : TypeId × Value → H} {w : World} {base : Nat} {spare : Nat → Bool} {held : Bool} (n : Nat) (cs' : List Value) (y : DataW H × List MemPlace) (h : DataW.trod tok Try.prog w base spare held n 41 cs' = some y) :
    ∃ a, cs' = encA a ∧ WfA a := by
  obtain ⟨hl, hf⟩ := open_fields Try.underlying41 (by kernel_rfl) (by kernel_rfl) h
  obtain ⟨v0, m0, z0, e0, t0⟩ := hf 0 _ rfl
  obtain ⟨v1, m1, z1, e1, t1⟩ := hf 1 _ rfl
  obtain ⟨v2, m2, z2, e2, t2⟩ := hf 2 _ rfl
  obtain ⟨x0, r0, -, w0⟩ := DataW.trod_int Try.underlying5 t0
  obtain ⟨x1, r1, -, w1⟩ := DataW.trod_int Try.underlying3 t1
  obtain ⟨x2, r2, -, w2⟩ := DataW.trod_int Try.underlying27 t2
  simp only [List.cons.injEq, and_true] at r0 r1 r2
  subst r0 r1 r2
  have b2 := bounds_u16 w2
  refine ⟨(x0, x1, x2), ?_, bounds_u8 w0, bounds_i64 w1, ⟨b2.1, by have := b2.2; show x2 < 65536; omega⟩⟩
  match cs', hl with
  | [c0, c1, c2], _ =>
    simp at e0 e1 e2
    subst e0 e1 e2
    rfl

/-- Both are empty at first. -/
theorem start {w wa wb : World} (ba : Below w.heap.size w wa) (hq : Q wb wa.heap.size (fun _ => []) (Plus (fun _ => False) wa wb)) (bb : Keep wa wb) :
    PI w.heap.size (wb.heap.size + 1) wa.heap.size wb.heap.size w (wb.alloc (.cells #[.slice none 0 0, .slice none 0 0, .slice none 0 0, .slice none 0 0, .slice none 0 0, .slice none 0 0, .slice none 0 0, .slice none 0 0] 39)) (fun _ => []) (fun _ => []) := by
  refine ⟨_, fun k => k = wb.heap.size, hq.mod ((Mod.refl (fun _ => False) wb).alloc _) (by simp), ⟨_, heap_alloc_new wb _, rfl, rfl, fun i hi => ⟨by simp, fun c hc => (by cases hc), .slice none 0 0, ?_, Row.nil _ _ _ _, by simp [Value.ownBlock]⟩, ?_⟩, ?_, ?_, ?_, (ba.trans (bb.below ba.size (by simp))).alloc (Nat.le_trans ba.size bb.size) _, ?_, by simp⟩
  · match i, hi with
    | 0, _ | 1, _ | 2, _ | 3, _ | 4, _ | 5, _ | 6, _ | 7, _ => rfl
  · intro i j u v k _ hu _ hk
    have hi : i < 8 := (Array.getElem?_eq_some_iff.1 hu).1
    have : u = .slice none 0 0 := by
      match i, hi, hu with
      | 0, _, h | 1, _, h | 2, _, h | 3, _, h | 4, _, h | 5, _, h | 6, _, h | 7, _, h => exact (Option.some.inj h).symm
    subst this
    simp [Value.ownBlock] at hk
  · rintro k (hk | ⟨_, hk⟩)
    · exact hk.elim
    · omega
  · rintro k (hk | ⟨hk, hk'⟩)
    · exact hk.elim
    · have := ba.size; omega
  · rintro k rfl
    have := ba.size; have := bb.size; omega
  · have := ba.size; have := bb.size; omega

set_option maxRecDepth 100000 in
set_option maxHeartbeats 4000000 in
theorem walk (A : Option Addr) (len cap : Nat) (l : List Act) (w : World) (hrd : Rd w 3 encA A len l) (hwf : ∀ a ∈ l, WfA a) :
    Calls Try.prog 6 #[.slice A len cap] w fun e w' => e = .returned (.bool true) ∧ Below w.heap.size w w' := by
  replace hrd := hide hrd
  replace hwf := hide hwf
  go_enter Try.func6, Try.ntmps6
  go_wp2_with (first
    | (go_at_call 7; refine (awake_big w.heap.size w (Nat.le_refl _)).mono ?_; rintro e wa ⟨rfl, ba⟩; replace ba := hide ba)
    | (go_at_call 8; refine (new_any _).mono ?_; rintro e wb ⟨rfl, hq, bb⟩; replace hq := hide hq; replace bb := hide bb))
  have hp0 : Hid (∃ N L, PI w.heap.size N wa.heap.size wb.heap.size w (wb.alloc (.cells #[.slice none 0 0, .slice none 0 0, .slice none 0 0, .slice none 0 0, .slice none 0 0, .slice none 0 0, .slice none 0 0, .slice none 0 0] 39)) L L) := hide ⟨_, _, start ba.out hq.out bb.out⟩
  generalize (wb.alloc (.cells #[.slice none 0 0, .slice none 0 0, .slice none 0 0, .slice none 0 0, .slice none 0 0, .slice none 0 0, .slice none 0 0, .slice none 0 0] 39)) = w0 at *
  generalize wa.heap.size = b at *
  generalize wb.heap.size = c at *
  clear hq ba bb
  go_loopw [5] (fun i wr => ∃ k : Nat, k ≤ len ∧ k ≤ 300 ∧ i = .int .i64 k ∧ Hid (∃ N L, PI w.heap.size N b c w wr L L)) (fun i _ => len - (intOf i).toNat)
  case atStart => exact ⟨0, by omega, by omega, rfl, hp0⟩
  case round =>
    obtain ⟨k, hk, hk300, rfl, hpr⟩ := hrel
    clear hp0
    by_cases hlt : k < len ∧ k < 300
    · obtain ⟨hlt, hlt300⟩ := hlt
      obtain ⟨ad, rfl, hcell⟩ := hrd.out.2 k hlt
      have hwk := hwf.out (gi l k) (by rw [gi_eq l k (by rw [hrd.out.1]; exact hlt)]; exact List.getElem_mem _)
      obtain ⟨N, L, hpi⟩ := hpr.out
      clear hpr
      have hbel := hpi.below
      have hc0 := hcell 0 _ rfl
      have hc1 := hcell 1 _ rfl
      have hc2 := hcell 2 _ rfl
      replace hc0 := (hbel.cell (World.block_lt_of_cell? w _ hc0)).trans hc0
      replace hc1 := (hbel.cell (World.block_lt_of_cell? w _ hc1)).trans hc1
      replace hc2 := (hbel.cell (World.block_lt_of_cell? w _ hc2)).trans hc2
      replace hc0 : wr.cell? (ad.add (k * 3)) = _ := hc0
      replace hc1 := fld hc1 (by decide)
      replace hc2 := fld hc2 (by decide)
      clear hcell hbel
      obtain ⟨⟨g0, g1⟩, ⟨g2, g3⟩, g4⟩ := hwk
      generalize gi l k = a at *
      obtain ⟨kd, n, x⟩ := a
      dsimp only at *
      replace hpi := hide hpi
      replace g4 := hide g4
      obtain ⟨d, hd⟩ : ∃ d : Int, d = kd % 6 := ⟨_, rfl⟩
      have hd6 : d = 0 ∨ d = 1 ∨ d = 2 ∨ d = 3 ∨ d = 4 ∨ d = 5 := by omega
      have hmod : kd.tmod 6 = d := by rw [hd]; exact Int.tmod_eq_emod_of_nonneg g0
      have hmod2 : kd % 6 = d := hd.symm
      clear hd
      rcases hd6 with rfl | rfl | rfl | rfl | rfl | rfl
      · have ha := hide (hpi.out.add n x g4.out)
        go_wp2_with (first
          | (go_at_call 9; (with_reducible refine ha.out.mono ?_); rintro e w1 ⟨rfl, h1⟩; have ha2 := hide (h1.out.radd n x g4.out))
          | (go_at_call 15; (with_reducible refine ha2.out.mono ?_); rintro e w2 ⟨rfl, h2⟩))
        go_roundw
        case rel => exact ⟨k + 1, by omega, by omega, by go_num, hide ⟨_, _, h2.out⟩⟩
        case measure => simp [intOf]; omega
      · have ha := hide (hpi.out.addAll n x g4.out)
        go_wp2_with (first
          | (go_at_call 14; (with_reducible refine ha.out.mono ?_); rintro e w1 ⟨rfl, h1⟩))
        have h10 : Hid (PI w.heap.size w1.heap.size b c w w1 (allTo L n x 8) (allTo L n x 0)) := by rw [allTo_none]; exact h1
        go_loopw [8] (fun u wz => ∃ j : Nat, j ≤ 8 ∧ u = .int .i64 j ∧ Hid (∃ N, PI w.heap.size N b c w wz (allTo L n x 8) (allTo L n x j))) (fun u _ => 8 - (intOf u).toNat)
        case atStart => exact ⟨0, by omega, rfl, hide ⟨_, h10.out⟩⟩
        case round =>
          obtain ⟨j, hj, rfl, hpj⟩ := hrel
          obtain ⟨N2, hpj⟩ := hpj.out
          by_cases hjlt : j < 8
          · by_cases hjn : (j : Int) = n
            · have hb : ((j : Int) != n) = false := by simpa using hjn
              have hs := hide (hpj.skip_step hjn)
              replace hjn := hide hjn
              clear hpj
              go_wp2_with fail
              go_roundw
              case rel => exact ⟨j + 1, by omega, by go_num, hide ⟨_, hs.out⟩⟩
              case measure => simp [intOf]; omega
            · have hb : ((j : Int) != n) = true := by simpa using hjn
              have hs := hide (hpj.radd_step hjlt hjn g4.out)
              replace hjn := hide hjn
              clear hpj
              go_wp2_with (first
                | (go_at_call 15; (with_reducible refine hs.out.mono ?_); rintro e w2 ⟨rfl, h2⟩))
              go_roundw
              case rel => exact ⟨j + 1, by omega, by go_num, hide ⟨_, h2.out⟩⟩
              case measure => simp [intOf]; omega
          · obtain rfl : j = 8 := by omega
            replace hpj := hide hpj
            go_wp2_with fail
            go_roundw
            case rel => exact ⟨k + 1, by omega, by omega, by go_num, hide ⟨_, _, hpj.out⟩⟩
            case measure => simp [intOf]; omega
      · obtain ⟨y, ok, hp1, hp2⟩ := hpi.out.peeks n
        replace hp1 := hide hp1
        replace hp2 := hide hp2
        go_wp2_with (first
          | (go_at_call 11; (with_reducible refine hp1.out.mono ?_); rintro e w1 ⟨rfl, h1⟩)
          | (go_at_call 16; (with_reducible refine (hp2.out _ h1.out).mono ?_); rintro e w2 ⟨rfl, h2⟩))
        go_roundw
        case rel => exact ⟨k + 1, by omega, by omega, by go_num, hide ⟨_, _, h2.out⟩⟩
        case measure => simp [intOf]; omega
      · obtain ⟨y, ok, L', hp1, hp2⟩ := hpi.out.nexts n
        replace hp1 := hide hp1
        replace hp2 := hide hp2
        go_wp2_with (first
          | (go_at_call 12; (with_reducible refine hp1.out.mono ?_); rintro e w1 ⟨rfl, h1⟩)
          | (go_at_call 16; (with_reducible refine (hp2.out _ h1.out).mono ?_); rintro e w2 ⟨rfl, h2⟩))
        go_roundw
        case rel => exact ⟨k + 1, by omega, by omega, by go_num, hide ⟨_, _, h2.out⟩⟩
        case measure => simp [intOf]; omega
      · by_cases hn : 0 ≤ n ∧ n < 8
        · obtain ⟨hn0, hn8⟩ := hn
          obtain ⟨A2, cap2, m, hm, hm8, hli⟩ := hpi.out.lists n hn0 hn8
          generalize L n.toNat = l2 at *
          replace hli := hide hli
          replace hm := hide hm
          obtain ⟨N0, hN0⟩ : ∃ N0, N0 = wr.heap.size := ⟨_, rfl⟩
          replace hN0 := hide hN0
          go_wp2_with (first
            | (go_at_call 10; (with_reducible refine hli.out.mono ?_); rintro e w1 ⟨A1, cap1, rfl, h1, hcc, hrow, hrd2, hnew, hold⟩; rw [← hN0.out] at h1 hnew hold))
          have hR0 : Hid (PI w.heap.size N0 b c w w1 L L ∧ Row w1 27 1 (ic .u16) (.slice A1 m cap1) (struck l2 0) ∧ Rd w1 1 (ic .u16) A2 m l2) := hide ⟨h1.out, by simpa [struck] using hrow.out, hrd2.out⟩
          clear h1 hrow hrd2 hcc hN0 hli
          go_loopw [19] (fun u wz => ∃ q : Nat, q ≤ m ∧ u = .int .i64 q ∧ Hid (PI w.heap.size N0 b c w wz L L ∧ Row wz 27 1 (ic .u16) (.slice A1 m cap1) (struck l2 q) ∧ Rd wz 1 (ic .u16) A2 m l2)) (fun u _ => m - (intOf u).toNat)
          case atStart => exact ⟨0, by omega, rfl, hR0⟩
          case round =>
            obtain ⟨q, hq, rfl, hR⟩ := hrel
            clear hR0
            by_cases hqm : q < m
            · have hql : q < l2.length := by rw [← hm.out]; exact hqm
              obtain ⟨g, c1, hv, -⟩ := hR.out.2.1.some_ (by rw [struck_length _ _ (Nat.le_of_lt hql)]; omega)
              obtain rfl : A1 = some ⟨g, 0, none⟩ := by injection hv
              clear hv c1
              obtain ⟨hc1, hf1⟩ := hR.out.2.1.num q (by rw [struck_length _ _ (Nat.le_of_lt hql)]; exact hql)
              rw [struck_gi] at hc1
              obtain ⟨ad2, rfl, hc2⟩ := hR.out.2.2.int q hqm
              have hng := hnew.out g rfl
              have hog := hold.out ad2 rfl
              have hstep : ∀ nq, Hid (PI w.heap.size N0 b c w ((wr.drewN nq).setCell ⟨g, q, none⟩ (.int .u16 0)) L L ∧ Row ((wr.drewN nq).setCell ⟨g, q, none⟩ (.int .u16 0)) 27 1 (ic .u16) (.slice (some ⟨g, 0, none⟩) m cap1) (struck l2 (q + 1)) ∧ Rd ((wr.drewN nq).setCell ⟨g, q, none⟩ (.int .u16 0)) 1 (ic .u16) (some ad2) m l2) := fun nq => by
                obtain ⟨r1, r2, r3⟩ := hR.out
                obtain ⟨s1, s2⟩ := (r2.drewN nq).store q 0
                rw [struck_set l2 q hql] at s1
                exact hide ⟨(r1.drewN nq).mod s2 fun k hk => by subst hk; exact hng, s1, (r3.drewN nq).mod s2 fun ad e hb => by
                  obtain rfl := Option.some.inj e
                  omega⟩
              replace hstep := hide hstep
              clear hR
              go_wp2_with fail
              go_quiet (fail)
              go_wp2_with fail
              go_roundw
              case rel => exact ⟨q + 1, by omega, by go_num, hstep.out _⟩
              case measure => simp [intOf]; omega
            · obtain rfl : q = m := by omega
              go_wp2_with fail
              go_roundw
              case rel => exact ⟨k + 1, by omega, by omega, by go_num, hide ⟨_, _, hR.out.1⟩⟩
              case measure => simp [intOf]; omega
        · have ho : n < 0 ∨ 8 ≤ n := by omega
          have hg : (decide (0 ≤ n) && decide (n < 8)) = false := by simp; omega
          have ha := hide (list_out (some ⟨b, 0, none⟩) n wr (.inr ho))
          clear hn
          rcases ho with ho | ho
          all_goals
            go_wp2_with (first
              | (go_at_call 10; (with_reducible refine ha.out.mono ?_); rintro e w1 ⟨rfl, rfl⟩))
            go_loop [19] (fun u => u = .int .i64 0) (fun u => 0)
            case atStart => rfl
            case round =>
              subst hrel
              go_wp2_with fail
              go_roundw
              case rel => exact ⟨k + 1, by omega, by omega, by go_num, hide ⟨_, _, hpi.out⟩⟩
              case measure => simp [intOf]; omega
      · by_cases hn : 0 ≤ n ∧ n < 8
        · obtain ⟨hn0, hn8⟩ := hn
          have ha := hide (hpi.out.clear n hn0 hn8)
          go_wp2_with (first
            | (go_at_call 17; (with_reducible refine ha.out.mono ?_); rintro e w1 ⟨rfl, h1⟩; obtain ⟨⟨v, hv⟩, hf, h2⟩ := h1.out.wiped n hn0 hn8; replace h2 := hide h2))
          go_roundw
          case rel => exact ⟨k + 1, by omega, by omega, by go_num, hide ⟨_, _, h2.out⟩⟩
          case measure => simp [intOf]; omega
        · have ho : n < 0 ∨ 8 ≤ n := by omega
          have hg : (decide (0 ≤ n) && decide (n < 8)) = false := by simp; omega
          have ha := hide (clear_out b n wr ho)
          clear hn
          rcases ho with ho | ho
          all_goals
            go_wp2_with (first
              | (go_at_call 17; (with_reducible refine ha.out.mono ?_); rintro e w1 ⟨rfl, rfl⟩))
            go_roundw
            case rel => exact ⟨k + 1, by omega, by omega, by go_num, hide ⟨_, _, hpi.out⟩⟩
            case measure => simp [intOf]; omega
    · have hcases : k = len ∨ (k < len ∧ k = 300) := by omega
      have hbel : Below w.heap.size w wr := by obtain ⟨_, _, h⟩ := hpr.out; exact h.below
      replace hbel := hide hbel
      clear hpr
      rcases hcases with rfl | ⟨hk1, rfl⟩
      all_goals
        go_wp2_with fail
        go_ret
        exact ⟨rfl, hbel.out⟩

set_option maxRecDepth 100000 in
theorem lifted (os : Os) (started : os.Started) (H : Type) (enc : TypeId × Value → H) :
    ReturnsInHanded {} Try.checked os 6 .any (Rows.attnPlaysSpec.pre6 enc Try.prog Try.f6 Rows.attnPlaysRow.domain false) (Rows.attnPlaysSpec.post enc Try.prog Try.f6 false true false false) := by
  refine returnsInHanded_of_change (C := Try.checked) own started (by kernel_rfl) Try.func6
    (ChangeSpec.witness6 (enc := enc) (C := Try.checked) false ⟨#[], #[.slice none 0 0], []⟩ 8 (by kernel_rfl) (by kernel_rfl) (by kernel_rfl) (by kernel_rfl)) ?_
  intro W base args ds gs before hval0 hW hcnd _
  have hval : ∀ (j : Nat) t v, Try.f6.params[j]? = some t → args[j]? = some v → Value.okWide Try.prog W .any base t v := hval0
  have hW' := hW
  obtain ⟨p, q, hA0, hV, rfl, hfz, hnd⟩ := hW
  have hA : DataW.TrodAll enc Try.prog W 0 (fun _ => true) true Try.f6.params.toList args.toList ds p := hA0
  rw [Try.params6] at hA hval
  obtain ⟨v0, vs0, d0, ds0, p0, q0, hargs, rfl, rfl, h0, r0⟩ := trodAll_cons hA
  obtain ⟨rfl, rfl, rfl⟩ := trodAll_nil r0
  obtain rfl : args = #[v0] := by cases args; simp_all
  obtain ⟨rfl, rfl⟩ := trodVars_none hV
  have k0 := h0
  have lt0 : ∀ x ∈ p0, x.block < W.heap.size := by obtain ⟨m, hm⟩ := k0; exact DataW.trod_lt m _ _ _ hm
  obtain ⟨A0, len0, cap0, rfl⟩ := okWide_slice Try.underlying35 (hval 0 35 v0 rfl rfl)
  obtain ⟨l0, hrd0, hwf0⟩ : ∃ l, Rd W 3 encA A0 len0 l ∧ ∀ a ∈ l, WfA a := by
    obtain ⟨fuel, hf⟩ := h0
    obtain ⟨A, len, cap, l, hcs, -, -, hrd, hwf, -⟩ := open_rows encA WfA Try.underlying35 (by kernel_rfl : Try.prog.cellsOf 41 = 3) (fun n cs' y h => open_act n cs' y h) (fun _ => rfl) hf
    simp [Value.cells] at hcs
    obtain ⟨rfl, rfl, rfl⟩ := hcs
    exact ⟨l, hrd, hwf⟩
  clear hA0 hval0
  refine (walk A0 len0 cap0 l0 W hrd0 hwf0).mono fun e W' ⟨he, bel⟩ => ?_
  subst he
  exact ⟨_, rfl, _, _, _, [], _, [], hW', trodAll_mk1 (shut_bool Try.underlying4 _), (trodAll_cons_mk (Below.trod laidOut (by kernel_rfl) (of_decide_eq_true (by kernel_rfl)) k0 bel lt0) trodAll_mk0), rfl, bel.frame _, fun h => by cases h⟩

theorem over : Rows.attnPlaysRow.holds Try.pinned (OpenSpec.ofChange Rows.attnPlaysSpec) :=
  OpenClaim.holds_of_wide 6 Try.f6 rfl rfl rfl rfl rfl rfl rfl ⟨rfl, rfl, rfl, rfl, rfl⟩ rfl rfl rfl rfl rfl (by kernel_rfl) Try.func6 (by kernel_rfl)
    (of_decide_eq_true (by kernel_rfl)) (by unfold Func.isWrapper; first | (rw [if_pos (by decide +kernel)]; kernel_rfl) | (rw [if_neg (by decide +kernel)]; exact ⟨rfl, rfl⟩))
    (fun os started H enc _ => lifted os started H enc)

theorem proved : Rows.AttnPlaysSaid := over
#print axioms proved
end Go.Proofs.Ytkkhnolokabbgaa.attnPlays
