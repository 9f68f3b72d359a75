/-
  The walk of WorldFails. No condition.
-/
import Derived.Test.YtmlnieblgkhjnaaTorn
import Derived.Test.YtmlnieblgkhjnaaPlan
import Derived.Test.YtmlnieblgkhjnaaNames
namespace Go.Proofs.Ytmlnieblgkhjnaa
open Go.RowKit Go.Maps
theorem strOf_push (L : List Int) (r : ByteArray) : (L.foldl (fun r n => r.push (UInt8.ofNat n.toNat)) r).data.toList = r.data.toList ++ L.map fun n => UInt8.ofNat n.toNat := by
  induction L generalizing r with
  | nil => simp
  | cons a l ih => rw [List.foldl_cons, ih]; simp [ByteArray.push]
theorem strOf_data (L : List Int) : (strOf L).data.toList = L.map fun n => UInt8.ofNat n.toNat := by
  unfold strOf
  rw [strOf_push]
  rfl
theorem strOf_size (L : List Int) : (strOf L).size = L.length := by
  have := congrArg List.length (strOf_data L)
  simpa using this
theorem strOf_append (L M : List Int) : strOf (L ++ M) = strOf L ++ strOf M := by
  have h : (strOf (L ++ M)).data.toList = (strOf L ++ strOf M).data.toList := by
    rw [strOf_data, ByteArray.data_append, Array.toList_append, strOf_data, strOf_data, List.map_append]
  cases hs : strOf (L ++ M) with
  | mk d =>
    cases ht : strOf L ++ strOf M with
    | mk d' =>
      rw [hs, ht] at h
      congr 1
      exact Array.toList_inj.1 h
theorem wrt_end (o : Option (List Int)) (p : List Int) : wrt o (o.getD []).length p = o.getD [] ++ p := by
  unfold wrt
  rw [List.take_append_of_le_length (Nat.le_refl _), List.take_of_length_le (Nat.le_refl _), List.drop_eq_nil_of_le (by simp), List.append_nil]
/-- A piece: a slice and its bytes. -/
structure Pc where
  A : Option Addr
  n : Nat
  c : Nat
  l : List Int
instance : Inhabited Pc := ⟨⟨none, 0, 0, []⟩⟩
def encP (p : Pc) : List Value := [.slice p.A p.n p.c]
theorem encP_len : ∀ p, (encP p).length = 1 := fun _ => rfl
end Go.Proofs.Ytmlnieblgkhjnaa
namespace Go.Proofs.Ytmlnieblgkhjnaa.worldFails
open Go.RowKit Go.Maps
theorem elem3 : Elem Try.prog 3 (.int .i64 0) 1 8 := ⟨by kernel_rfl, rfl, by decide⟩
/-- The world after i pieces of which W was written. -/
def Inv (d : Wd) (L : List Int) (i : Nat) (W : List Int) : Prop := d.ops = i ∧ d.fl = (fun x => decide (x ∈ L)) ∧ (d.seen ⟨#[102]⟩).getD [] = W ∧ d.waits.length ≤ i
theorem Inv.bad {d : Wd} {L : List Int} {i : Nat} {W p : List Int} (h : Inv d L i W) (hb : (i : Int) ∈ L) : Inv (did d ⟨119, ⟨#[102]⟩, ⟨#[]⟩, W.length, p⟩) L (i + 1) W ∧ er d = 6 := by
  obtain ⟨h1, h2, h3, h4⟩ := h
  have hf : d.fl d.ops = true := by rw [h2, h1]; simpa using hb
  unfold did er
  rw [hf]
  exact ⟨⟨by simp [h1], h2, h3, Nat.le_succ_of_le h4⟩, rfl⟩
theorem Inv.good {d : Wd} {L : List Int} {i : Nat} {W p : List Int} (h : Inv d L i W) (hb : ¬ (i : Int) ∈ L) : Inv (did d ⟨119, ⟨#[102]⟩, ⟨#[]⟩, W.length, p⟩) L (i + 1) (W ++ p) ∧ er d = 0 := by
  obtain ⟨h1, h2, h3, h4⟩ := h
  have hf : d.fl d.ops = false := by rw [h2, h1]; simpa using hb
  unfold did er
  rw [hf]
  refine ⟨⟨by simp [h1], h2, ?_, by simp; omega⟩, rfl⟩
  show ((ap d.seen ⟨119, ⟨#[102]⟩, ⟨#[]⟩, W.length, p⟩ p.length) ⟨#[102]⟩).getD [] = _
  simp only [ap, if_true, upd_same, List.take_length, Option.getD_some]
  rw [← h3, wrt_end]
/-- The plan so far. -/
def PL (w2 wr : World) (l : List Int) (k : Nat) (u : Value) : Prop := Row wr 3 1 (ic .i64) u (l.take k) ∧ Mod (fun _ => False) w2 wr ∧ ∀ j, u.ownBlock = some j → w2.heap.size ≤ j
theorem PL.step {w2 wr w3 : World} {l : List Int} {k : Nat} {u v : Value} {o : Obj} (h : PL w2 wr l k u) (hk : k < l.length) (r3 : Row w3 3 1 (ic .i64) v (l.take k ++ [gi l k])) (g3 : (wr.alloc o).grownBy w3 u.ownBlock) (a3 : v.ownBlock = u.ownBlock ∨ v.ownBlock = some (wr.alloc o).heap.size) : PL w2 w3 l (k + 1) v := by
  obtain ⟨h1, h2, h3⟩ := h
  refine ⟨?_, (h2.alloc o).grown g3 (fun j hj => .inr (h3 j hj)), fun j hj => ?_⟩
  · rw [List.take_add_one, List.getElem?_eq_getElem hk, ← gi_eq l k hk]
    exact r3
  · rcases a3 with e | e <;> rw [e] at hj
    · exact h3 j hj
    · have := h2.size
      simp at hj
      omega
/-- The world in the law's loop. -/
def St (w wr : World) (b N0 i : Nat) (L W : List Int) (pv : Value) : Prop := ∃ d F, WS w.heap.size wr b d (N0 + i) F ∧ Inv d L i W ∧ W.length ≤ i * 1000 ∧ Below w.heap.size w wr ∧ Row wr 3 1 (ic .i64) pv L ∧ ∀ j, pv.ownBlock = some j → ¬ F j
set_option maxRecDepth 100000 in
set_option maxHeartbeats 8000000 in
theorem walk0 (A0 : Option Addr) (n0 c0 : Nat) (P : List Pc) (A1 : Option Addr) (n1 c1 : Nat) (l1 : List Int) (w : World) (R0 : Rd w 1 encP A0 n0 P) (hP : ∀ p ∈ P, Rd w 1 (ic .u8) p.A p.n p.l) (r1 : Rd w 1 (ic .u8) A1 n1 l1) (b1 : ∀ x ∈ l1, 0 ≤ x ∧ x ≤ 255) :
    Calls Try.prog 3 #[.slice A0 n0 c0, .slice A1 n1 c1] w fun e w' => e = .returned (.bool true) ∧ Below w.heap.size w w' := by
  have hl1 := hide r1.1
  replace R0 := hide R0
  replace hP := hide hP
  replace r1 := hide r1
  replace b1 := hide b1
  go_enter Try.func3, Try.ntmps3
  go_wp2_with (first
    | (go_at_call 8; (with_reducible refine (awake_any _).mono ?_); rintro e w1 ⟨rfl, m1⟩
       have L1 := m1.below (B := w.heap.size) (Nat.le_refl _) (fun _ h => h.elim)
       clear m1)
    | (go_at_call 9; (with_reducible refine (new_any _ w.heap.size L1.size).mono ?_); rintro e w2 ⟨b, F, rfl, k2, m2, -⟩
       have L2 := L1.trans (m2.below (B := w.heap.size) L1.size (fun _ h => h.elim))
       have r12 := hide (r1.out.below L2)
       replace k2 := hide k2; replace L2 := hide L2; clear m2))
  have hP0 : Hid (PL w2 w2 l1 0 (.slice none 0 0)) := hide ⟨Row.nil _ _ _ _, Mod.refl _ _, by simp [Value.ownBlock]⟩
  go_loopw [6, 7] (fun u v wr => ∃ k : Nat, k ≤ n1 ∧ k ≤ 20 ∧ v = .int .i64 k ∧ (∃ A c, u = .slice A k c) ∧ Hid (PL w2 wr l1 k u)) (fun _ v _ => n1 - (intOf v).toNat)
  case atStart => exact ⟨0, by omega, by omega, rfl, ⟨_, _, rfl⟩, hP0⟩
  case round =>
    obtain ⟨k, hk1, hk2, rfl, ⟨A6, c6, rfl⟩, hR⟩ := hrel
    clear hP0
    by_cases hlt : k < n1 ∧ k < 20
    · obtain ⟨hlt1, hlt2⟩ := hlt
      obtain ⟨ad, rfl, hck⟩ := (r12.out.mod hR.out.2.1 (fun _ _ h => h)).int k hlt1
      have hkl : k < l1.length := by rw [hl1.out]; exact hlt1
      obtain ⟨q0, q1⟩ := b1.out (gi l1 k) (by rw [gi_eq l1 k hkl]; exact List.getElem_mem _)
      have e1 : IntKind.i64.wrap (gi l1 k) = gi l1 k := IntWalk.i64_in _ (by omega)
      have htl : (l1.take k).length = k := by rw [List.length_take]; omega
      replace htl := hide htl
      go_wp2_with (first
        | (at_builtin; refine list_app (.tmp 28) (.tmp 34) 27 3 _ 1 8 (ic .i64) rfl rfl (ic_len _) (ic_one _) Try.underlying27 elem3 (.slice A6 k c6) (l1.take k) (some ⟨wr.heap.size, 0, none⟩) 1 1 [gi l1 k] rfl rfl (hR.out.1.alloc _) (Rd.box wr (ic .i64) (gi l1 k) 3) ?_ ?_ ?_
           (rw [htl.out]; simp [maxLen]; omega)
           (rw [htl.out]; omega)
           intro v3 w3 r3 g3 a3
           have hE := hide (hR.out.step hkl r3 g3 a3)
           obtain ⟨A3, c3, hv3, -, -⟩ := r3.slice
           rw [List.length_append, htl.out] at hv3
           subst hv3
           clear r3 g3 a3))
      go_roundw
      case rel => exact ⟨k + 1, by omega, by omega, by go_num, ⟨_, _, rfl⟩, hE⟩
      case measure => simp [intOf]; omega
    · have hcases : (¬ k < n1) ∨ (k < n1 ∧ (20 : Int) ≤ k) := by omega
      obtain ⟨L, hL⟩ : ∃ L, L = l1.take k := ⟨_, rfl⟩
      have hLl : L.length = k := by rw [hL, List.length_take, hl1.out]; omega
      have hwf : ∀ x ∈ L, (Lit.int .i64 x).wf = true := fun x hx => by
        rw [hL] at hx
        obtain ⟨y0, y1⟩ := b1.out x (List.mem_of_mem_take hx)
        obtain ⟨y, rfl⟩ := Int.eq_ofNat_of_zero_le y0
        exact wf_nat y (by omega)
      have hrow := hR.out.1
      rw [← hL] at hrow
      have hnF : ∀ j, (Value.slice A6 k c6).ownBlock = some j → ¬ F j := fun j hj hf => by have := hR.out.2.2 j hj; have := (k2.out.2.1 j hf).2; omega
      have k3 := k2.out.mod hR.out.2.1 (fun _ _ h => h)
      have L3 := L2.out.trans (hR.out.2.1.below (B := w.heap.size) L2.out.size (fun _ h => h.elim))
      have hpl := hide (plan_some w.heap.size b wd0 0 F A6 k c6 L wr k3 (hrow.rd (ic_len _) rfl) hwf (by omega) (fun ad e h0 => ⟨hnF ad.block (by rw [own_map, e]; rfl), hrow.lt ad.block (by rw [own_map, e]; rfl)⟩))
      replace hrow := hide hrow
      replace hnF := hide hnF
      replace L3 := hide L3
      replace hL := hide hL
      replace hLl := hide hLl
      clear hwf k3 hR hlt
      rcases hcases with d1 | ⟨d1, d2⟩
      all_goals
        go_wp2_with (first
          | (go_at_call 10; (with_reducible refine hpl.out.mono ?_); rintro e w5 ⟨F5, rfl, k5, n5⟩
             have hS0 : Hid (St w w5 b k 0 L [] (.slice A6 k c6)) := hide ⟨planned wd0 L, F5, WS.le k5 (by omega), ⟨rfl, rfl, rfl, Nat.le_refl _⟩, Nat.zero_le _, L3.out.trans n5.2.1, hrow.out.mod n5.1 hnF.out, fun j hj hf => hnF.out j hj (n5.2.2 j (hrow.out.lt j hj) hf)⟩
             clear k5 n5))
        go_loopw [8, 9] (fun u v wr => ∃ (i : Nat) (W : List Int) (S : ByteArray), i ≤ n0 ∧ i ≤ 30 ∧ v = .int .i64 i ∧ u = .string S ∧ S.size = W.length ∧ W.length ≤ i * 1000 ∧ Hid (S = strOf W) ∧ Hid (St w wr b k i L W (.slice A6 k c6))) (fun _ v _ => n0 - (intOf v).toNat)
        case atStart => exact ⟨0, [], ⟨#[]⟩, by omega, by omega, rfl, rfl, rfl, Nat.zero_le _, hide rfl, hS0⟩
        case round =>
          obtain ⟨i, W, S, hi1, hi2, rfl, rfl, hSz, hWl, hSW, hSt⟩ := hrel
          clear hS0 hpl
          by_cases hlt2 : i < n0 ∧ i < 30
          · obtain ⟨hlt3, hlt4⟩ := hlt2
            obtain ⟨d, F6, k6, hI, hWl2, L6, hrow6, hnF6⟩ := hSt.out
            obtain ⟨ad, rfl, hcp⟩ := R0.out.2 i hlt3
            obtain ⟨⟨pA, pn, pc, pl⟩, hp⟩ : ∃ p, p = gi P i := ⟨_, rfl⟩
            rw [← hp] at hcp
            have hcw := hcp 0 _ rfl
            rw [Nat.mul_one, Nat.add_zero] at hcw
            have hc := (L6.cell (World.block_lt_of_cell? w _ hcw)).trans hcw
            have hpr0 := hide (hP.out ⟨pA, pn, pc, pl⟩ (by rw [hp, gi_eq P i (by rw [R0.out.1]; exact hlt3)]; exact List.getElem_mem _))
            have hpr : Rd wr 1 (ic .u8) pA pn pl := hpr0.out.below L6
            replace hcw := hide hcw
            replace hpr := hide hpr
            replace hI := hide hI
            replace hrow6 := hide hrow6
            replace hnF6 := hide hnF6
            replace L6 := hide L6
            replace k6 := hide k6
            replace hSz := hide hSz
            clear hcp hp hSt
            by_cases hbig : 1000 < pn
            · have hbig2 : (1000 : Int) < pn := by omega
              go_wp2_with fail
              go_ret
              exact ⟨rfl, L6.out⟩
            · have hbig2 : ¬ (1000 : Int) < pn := by omega
              go_wp2_with fail
              go_loopw [10, 11] (fun x y wr2 => ∃ j : Nat, j ≤ k ∧ y = .int .i64 j ∧ x = .bool (inP L j i) ∧ Hid (wr2 = wr)) (fun _ y _ => k - (intOf y).toNat)
              case atStart => exact ⟨0, by omega, rfl, by simp [inP], hide rfl⟩
              case round =>
                obtain ⟨j, hj, rfl, rfl, hw2⟩ := hrel
                obtain rfl := hw2.out
                by_cases hlt5 : j < k
                · obtain ⟨ad6, rfl, hc6⟩ := (hrow6.out.rd (ic_len _) rfl).int j hlt5
                  have hst := congrFun (inP_step L j (by rw [hLl.out]; exact hlt5)) (i : Int)
                  generalize hb : inP L j i = bb at *
                  replace hb := hide hb
                  cases bb with
                  | true =>
                    have hst2 : inP L (j + 1) i = true := by rw [← hst]; simp
                    clear hst
                    go_wp2_with fail
                    go_roundw
                    case rel => exact ⟨j + 1, by omega, by go_num, by rw [hst2], by first | trivial | exact hide rfl⟩
                    case measure => simp [intOf]; omega
                  | false =>
                    by_cases he : (i : Int) = gi L j
                    · have hst2 : inP L (j + 1) i = true := by rw [← hst]; simp [he]
                      have he2 : (gi L j == (i : Int)) = true := by simp [he]
                      clear hst
                      go_wp2_with fail
                      go_roundw
                      case rel => exact ⟨j + 1, by omega, by go_num, by first | (rw [hst2]; done) | (rw [hst2]; simp [he]), by first | trivial | exact hide rfl⟩
                      case measure => simp [intOf]; omega
                    · have hst2 : inP L (j + 1) i = false := by rw [← hst]; simp [he]
                      have he2 : ¬ (gi L j = (i : Int)) := fun h => he h.symm
                      clear hst
                      go_wp2_with fail
                      go_roundw
                      case rel => exact ⟨j + 1, by omega, by go_num, by first | (rw [hst2]; done) | (rw [hst2]; simp [he2]), by first | trivial | exact hide rfl⟩
                      case measure => simp [intOf]; omega
                · obtain rfl : j = k := by omega
                  have hall : inP L j i = decide ((i : Int) ∈ L) := by unfold inP; rw [List.take_of_length_le (by rw [hLl.out]; exact Nat.le_refl _)]
                  have hw := write_some w.heap.size b d (j + i) F6 ⟨#[102]⟩ W.length pA pn pc pl wr k6.out (by omega) (by decide) (by decide) hpr.out (by omega)
                  rw [← hSz.out] at hw
                  by_cases hbad : (i : Int) ∈ L
                  · rw [(hI.out.bad hbad (p := pl)).2] at hw
                    have hst3 : inP L j i = true := by rw [hall]; simpa using hbad
                    replace hw := hide hw
                    clear hall
                    rw [hst3]
                    go_wp2_with (first
                      | (go_at_call 11; (with_reducible refine hw.out.mono ?_); rintro e w7 ⟨F7, rfl, k7, n7⟩
                         have hSt7 : Hid (St w w7 b j (i + 1) L W (.slice A6 j c6)) := hide ⟨_, F7, WS.le k7 (by omega), by rw [hSz.out]; exact (hI.out.bad hbad (p := pl)).1, by omega, L6.out.trans n7.2.1, hrow6.out.mod n7.1 hnF6.out, fun q hq hf => hnF6.out q hq (n7.2.2 q (hrow6.out.lt q hq) hf)⟩
                         clear k7 n7))
                    go_roundw
                    case rel => exact ⟨i + 1, W, S, by omega, by omega, by go_num, rfl, hSz.out, by omega, hSW, hSt7⟩
                    case measure => simp [intOf]; omega
                  · rw [(hI.out.good hbad (p := pl)).2] at hw
                    have hst3 : inP L j i = false := by rw [hall]; simpa using hbad
                    have hpl2 := hide hpr.out.1
                    have hzz : ¬ 9223372036854775807 < S.size + (strOf pl).size := by rw [hSz.out, strOf_size, hpl2.out]; omega
                    replace hw := hide hw
                    clear hall
                    rw [hst3]
                    go_wp2_with (first
                      | (go_at_call 11; (with_reducible refine hw.out.mono ?_); rintro e w7 ⟨F7, rfl, k7, n7⟩
                         have hSt7 : Hid (St w w7 b j (i + 1) L (W ++ pl) (.slice A6 j c6)) := hide ⟨_, F7, WS.le k7 (by omega), by rw [hSz.out]; exact (hI.out.good hbad (p := pl)).1, by rw [List.length_append, hpl2.out]; omega, L6.out.trans n7.2.1, hrow6.out.mod n7.1 hnF6.out, fun q hq hf => hnF6.out q hq (n7.2.2 q (hrow6.out.lt q hq) hf)⟩
                         have L7 := L6.out.trans n7.2.1
                         have hc7 := (L7.cell (World.block_lt_of_cell? w _ hcw.out)).trans hcw.out
                         have hcs := conv_str (c := pc) (hpr0.out.below L7)
                         clear k7 n7 L7))
                    go_roundw
                    case rel => exact ⟨i + 1, W ++ pl, S ++ strOf pl, by omega, by omega, by go_num, rfl, by rw [ByteArray.size_append, strOf_size, List.length_append, hSz.out], by rw [List.length_append, hpl2.out]; omega, hide (by rw [hSW.out, strOf_append]), hSt7⟩
                    case measure => simp [intOf]; omega
          · have hcases2 : (¬ i < n0) ∨ (i < n0 ∧ (30 : Int) ≤ i) := by omega
            obtain ⟨d, F6, k6, hI, hWl2, L6, hrow6, hnF6⟩ := hSt.out
            have hpl := hide (plan_some w.heap.size b d (k + i) F6 none 0 0 [] wr k6 (Rd.none_ _ _ _ _) (fun x hx => by cases hx) (by omega) (fun ad e => by cases e))
            have hnf : NF (planned d []) := fun x => by simp [planned]
            have hseen : (d.seen ⟨#[102]⟩).getD [] = W := hI.2.2.1
            replace L6 := hide L6
            clear hSt k6 hI hrow6 hnF6 hlt2
            obtain ⟨q, hq⟩ : ∃ q, q = d.seen ⟨#[102]⟩ := ⟨_, rfl⟩
            rw [← hq] at hseen
            replace hq := hide hq
            cases q with
            | none =>
              obtain rfl : [] = W := hseen
              obtain rfl : S = ⟨#[]⟩ := hSW.out
              clear hSW hSz
              rcases hcases2 with g1 | ⟨g1, g2⟩
              all_goals
                go_wp2_with (first
                  | (go_at_call 10; (with_reducible refine hpl.out.mono ?_); rintro e w8 ⟨F8, rfl, k8, n8⟩
                     have hrd : Hid (Calls Try.prog 12 #[.pointer (some ⟨b, 0, none⟩), .string ⟨#[102]⟩, .int .i64 0, .int .i64 40000] w8 _) := hide (read_none w.heap.size b (planned d []) (k + i + 0) F8 ⟨#[102]⟩ 0 40000 w8 k8 (by omega) (hnf _) (by decide) (by decide) hq.out.symm)
                     have L8 := hide (L6.out.trans n8.2.1)
                     clear k8 n8)
                  | (go_at_call 12; (with_reducible refine hrd.out.mono ?_); rintro e w9 ⟨rfl, k9, n9⟩
                     have hsz := hide (size_no w.heap.size b (tick (planned d [])) _ F8 ⟨#[102]⟩ w9 k9 (by decide) hq.out.symm)
                     have L9 := hide (L8.out.trans n9.2.1)
                     clear k9 n9)
                  | (go_at_call 13; (with_reducible refine hsz.out.mono ?_); rintro e w10 ⟨rfl, rfl⟩))
                go_ret
                exact ⟨rfl, L9.out⟩
            | some Lf =>
              obtain rfl : Lf = W := hseen
              obtain ⟨m, hm⟩ : ∃ m, Lf.length = m := ⟨_, rfl⟩
              have hml : m ≤ 30000 := by omega
              replace hm := hide hm
              clear hSz hWl hWl2
              obtain rfl := hSW.out
              have hne : ¬ ((m : Int) = -1) := by omega
              rcases hcases2 with g1 | ⟨g1, g2⟩
              all_goals
                go_wp2_with (first
                  | (go_at_call 10; (with_reducible refine hpl.out.mono ?_); rintro e w8 ⟨F8, rfl, k8, n8⟩
                     have hrd := hide (read_m w.heap.size b (planned d []) (k + i + 0) F8 ⟨#[102]⟩ 40000 40000 rfl Lf m hm.out w8 k8 (by omega) hnf (by decide) (by decide) hq.out.symm (by omega) (by omega))
                     have L8 := hide (L6.out.trans n8.2.1)
                     clear k8 n8)
                  | (go_at_call 12; (with_reducible refine hrd.out.mono ?_); rintro e w9 ⟨A9, c9, rfl, r9, -, k9, n9⟩
                     have hsz := hide (size_yes w.heap.size b (tick (planned d [])) _ F8 ⟨#[102]⟩ m w9 k9 (by decide) Lf hq.out.symm hm.out)
                     have t1 := conv_row r9
                     have L9 := hide (L8.out.trans n9.2.1)
                     clear k9 n9 r9)
                  | (go_at_call 13; (with_reducible refine hsz.out.mono ?_); rintro e w10 ⟨rfl, rfl⟩))
                go_ret
                exact ⟨rfl, L9.out⟩
end Go.Proofs.Ytmlnieblgkhjnaa.worldFails
