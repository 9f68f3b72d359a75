/-
  The walk of the document's Next. Conditions: queues that read as lists of at most eight codes each, rows of their own.
-/
import Derived.Test.YtkkhnolokabbgaaRef
namespace Go.Proofs.Ytkkhnolokabbgaa
open Go.RowKit

/-- The first of the least rank. -/
theorem fi_first (l : List Int) : ∀ k j, j < (fi l k).toNat → rk (gi l (fi l k).toNat) < rk (gi l j)
  | 0, j, h => by simp [fi] at h
  | k + 1, j, h => by
    have ih := fi_first l k
    have hm := fi_min l k
    obtain ⟨f1, f2, f3⟩ := fi_lt l k
    simp only [fi] at h ⊢
    by_cases hc : fi l k < 0 ∨ rk (gi l k) < rk (gi l (fi l k).toNat)
    · rw [if_pos hc] at h ⊢
      rw [Int.toNat_natCast] at h ⊢
      have := hm j h
      rcases hc with hc | hc
      · have := f3 (by omega); omega
      · omega
    · rw [if_neg hc] at h ⊢
      exact ih j h
theorem fi_is {l : List Int} {i : Nat} (hi : i < l.length) (h1 : ∀ j, j < l.length → rk (gi l i) ≤ rk (gi l j)) (h2 : ∀ j, j < i → rk (gi l j) ≠ rk (gi l i)) : fi l l.length = (i : Int) := by
  obtain ⟨f1, f2, f3⟩ := fi_lt l l.length
  have f4 := f3 (by omega)
  have a := fi_min l l.length i hi
  have b := h1 (fi l l.length).toNat (by omega)
  have c := fi_first l l.length i
  rcases Nat.lt_trichotomy i (fi l l.length).toNat with h | h | h
  · have := c h; omega
  · omega
  · have := h2 _ h; omega
/-- All of the first j but number i. -/
def cutTo (l : List Int) (i j : Nat) : List Int := (l.take j).eraseIdx i
theorem cutTo_skip (l : List Int) (i : Nat) (hi : i < l.length) : cutTo l i (i + 1) = cutTo l i i := by
  unfold cutTo
  rw [List.take_succ_eq_append_getElem hi, List.eraseIdx_append_of_length_le (by simp; omega)]
  have : i - (l.take i).length = 0 := by simp; omega
  rw [this]
  have h2 : (l.take i).length ≤ i := by simp; omega
  rw [List.eraseIdx_of_length_le h2]
  simp
theorem cutTo_add (l : List Int) (i j : Nat) (hj : j < l.length) (hne : j ≠ i) : cutTo l i (j + 1) = cutTo l i j ++ [gi l j] := by
  unfold cutTo
  rw [List.take_succ_eq_append_getElem hj, gi_eq l j hj]
  have hlen : (l.take j).length = j := by simp; omega
  rcases Nat.lt_or_ge i j with h | h
  · rw [List.eraseIdx_append_of_lt_length (by omega)]
  · rw [List.eraseIdx_of_length_le (by rw [List.length_append, hlen]; simp; omega), List.eraseIdx_of_length_le (by rw [hlen]; omega)]
theorem cutTo_all (l : List Int) (i : Nat) : cutTo l i l.length = l.take i ++ l.drop (i + 1) := by
  unfold cutTo
  rw [List.take_of_length_le (Nat.le_refl _), List.eraseIdx_eq_take_drop_succ]
theorem cutTo_length (l : List Int) (i j : Nat) : (cutTo l i j).length ≤ l.length := by
  unfold cutTo
  rw [List.length_eraseIdx]
  split <;> simp <;> omega

set_option maxRecDepth 100000 in
set_option maxHeartbeats 1000000 in
theorem rnext_none (b : Nat) (n : Int) (t : Bool) (L : Nat → List Int) (F : Nat → Prop) (w : World) (hq : R w b L F) (h : n < 0 ∨ 8 ≤ n ∨ L n.toNat = []) :
    Calls Try.prog 16 #[.pointer (some ⟨b, 0, none⟩), .int .i64 n, .bool t] w fun e w' => e = .returned (.tuple #[.int .u16 0, .bool false]) ∧ w = w' := by
  by_cases h1 : n < 0
  · have hd : decide (n < 0) = true := by simpa using h1
    go_enter Try.func16, Try.ntmps16
    go_wp2
    go_ret2
    exact ⟨rfl, rfl⟩
  · have hd : decide (n < 0) = false := by simpa using h1
    by_cases h2 : 7 < n
    · have hd2 : decide (7 < n) = true := by simpa using h2
      go_enter Try.func16, Try.ntmps16
      go_wp2
      go_ret2
      exact ⟨rfl, rfl⟩
    · have hd2 : decide (7 < n) = false := by simpa using h2
      obtain ⟨A, cap, hc, -, -, -, -, -⟩ := hq.at_ n (by omega) (by omega)
      have hnil : L n.toNat = [] := by
        rcases h with h | h | h
        · omega
        · omega
        · exact h
      rw [hnil] at hc
      have hc : w.cell? ⟨b, n.toNat, none⟩ = some (.slice A 0 cap) := hc
      clear hq hnil h
      go_enter Try.func16, Try.ntmps16
      go_wp2
      go_ret2
      exact ⟨rfl, rfl⟩

set_option maxRecDepth 100000 in
set_option maxHeartbeats 1000000 in
theorem rnext_some (b : Nat) (n : Int) (t : Bool) (L : Nat → List Int) (F : Nat → Prop) (w : World) (h0 : 0 ≤ n) (h8 : n < 8) (hq : R w b L F) (i0 : Nat) (hi : fi (L n.toNat) (L n.toNat).length = (i0 : Int)) :
    Calls Try.prog 16 #[.pointer (some ⟨b, 0, none⟩), .int .i64 n, .bool t] w fun e w' =>
      e = .returned (.tuple #[.int .u16 (gi (L n.toNat) i0), .bool true]) ∧ R w' b (if t then put L n.toNat ((L n.toNat).take i0 ++ (L n.toNat).drop (i0 + 1)) else L) (Plus F w w') ∧ Mod F w w' := by
  obtain ⟨A, cap, hc, hfz, hl8, hu, hrow, hown⟩ := hq.at_ n h0 h8
  have hblt := hq.lt
  obtain ⟨f1, -, -⟩ := fi_lt (L n.toNat) (L n.toNat).length
  rw [hi] at f1
  generalize hl : L n.toNat = l at *
  have hr := hrow.rd (ic_len _) rfl
  obtain ⟨len, hlen⟩ : ∃ len, len = l.length := ⟨_, rfl⟩
  rw [← hlen] at hc hr hl8 hrow hown f1
  have hll8 : l.length ≤ 8 := by rw [← hlen]; exact hl8
  have hd : decide (n < 0) = false := by simp; omega
  have hd2 : decide (7 < n) = false := by simp; omega
  have hnz : ((len : Int) == 0) = false := by simp; omega
  have hpos : 0 < len := by omega
  obtain ⟨ad, rfl, -⟩ := hr.int 0 hpos
  replace hlen := hide hlen
  replace hr := hide hr
  replace hu := hide hu
  replace hq := hide hq
  replace hi := hide hi
  replace hrow := hide hrow
  replace hown := hide hown
  clear hl
  go_enter Try.func16, Try.ntmps16
  go_wp2_with fail
  go_loop [8] (fun u => ∃ r : Nat, r ≤ 4 ∧ u = .int .i64 r ∧ Hid (∀ j, j < len → (r : Int) ≤ rk (gi l j))) (fun u => 4 - (intOf u).toNat)
  case atStart => exact ⟨0, by omega, rfl, hide fun j _ => rk_nonneg _⟩
  case round =>
    obtain ⟨r, hr4, rfl, hge⟩ := hrel
    by_cases hlt : r < 4
    · go_wp2_with fail
      go_loop [9] (fun u => ∃ i : Nat, i ≤ len ∧ u = .int .i64 i ∧ Hid (∀ j, j < i → rk (gi l j) ≠ (r : Int))) (fun u => len - (intOf u).toNat)
      case atStart => exact ⟨0, by omega, rfl, hide fun j hj => by omega⟩
      case round =>
        obtain ⟨i, hil, rfl, hno⟩ := hrel
        by_cases hilt : i < len
        · obtain ⟨ad', e', hck⟩ := hr.out.int i hilt
          obtain rfl : ad = ad' := by simpa using e'
          clear e'
          by_cases heq : rk (gi l i) = (r : Int)
          · have heb : (rk (gi l i) != (r : Int)) = false := by simpa using heq
            have hfi : i = i0 := by
              have := fi_is (l := l) (i := i) (by rw [← hlen.out]; exact hilt) (fun j hj => by rw [heq]; exact hge.out j (by rw [hlen.out]; exact hj)) (fun j hj => by rw [heq]; exact hno.out j hj)
              rw [hi.out] at this
              omega
            subst hfi
            replace heq := hide heq
            cases t
            · go_wp2_with (go_at_call 13; refine (rank_ref _ _ (hu.out.gi _)).mono ?_; rintro e w' ⟨rfl, rfl⟩)
              go_ret2
              exact ⟨rfl, hq.out.mono fun k hk => .inl hk, Mod.refl _ _⟩
            · go_wp2_with (go_at_call 13; refine (rank_ref _ _ (hu.out.gi _)).mono ?_; rintro e w' ⟨rfl, rfl⟩)
              go_loopw [11, 12] (fun u v wr => ∃ j : Nat, j ≤ len ∧ v = .int .i64 j ∧ (∃ A m c, u = .slice A m c) ∧ Hid (Row wr 27 1 (ic .u16) u (cutTo l i j) ∧ Keep w wr ∧ ∀ k, u.ownBlock = some k → w.heap.size ≤ k)) (fun _ v _ => len - (intOf v).toNat)
              case atStart => exact ⟨0, by omega, rfl, ⟨_, _, _, rfl⟩, hide ⟨Row.nil _ _ _ _, Mod.refl _ _, by simp [Value.ownBlock]⟩⟩
              case round =>
                obtain ⟨j, hjl, rfl, ⟨A1, m1, c1, rfl⟩, hR⟩ := hrel
                have hcr := hR.out.2.1.cell hc (by simp)
                have hfr : wr.frozen? ⟨b, n.toNat, none⟩ = false := (hR.out.2.1.frozen (p := ⟨b, n.toNat, none⟩) hblt (by simp)).trans hfz
                by_cases hjlt : j < len
                · obtain ⟨ad', e', hckj⟩ := hr.out.int j hjlt
                  obtain rfl : ad = ad' := by simpa using e'
                  clear e'
                  have hckr := hR.out.2.1.cell hckj (by simp)
                  by_cases hji : j = i
                  · have hb : ((j : Int) != (i : Int)) = false := by simp [hji]
                    have hst : cutTo l i (j + 1) = cutTo l i j := by rw [hji]; exact cutTo_skip l i (by rw [← hlen.out]; exact hilt)
                    replace hji := hide hji
                    replace hst := hide hst
                    go_wp2_with fail
                    go_roundw
                    case rel => exact ⟨j + 1, by omega, by go_num, ⟨_, _, _, rfl⟩, by rw [hst.out]; exact hR⟩
                    case measure => simp [intOf]; omega
                  · have hb : ((j : Int) != (i : Int)) = true := by simp; omega
                    have hst : cutTo l i (j + 1) = cutTo l i j ++ [gi l j] := cutTo_add l i j (by rw [← hlen.out]; exact hjlt) hji
                    have hlen8 : (cutTo l i j).length ≤ 8 := Nat.le_trans (cutTo_length _ _ _) hll8
                    replace hji := hide hji
                    replace hst := hide hst
                    go_wp2_with (at_builtin; refine list_app (.tmp 72) (.tmp 82) 22 27 (.int .u16 0) 1 2 (ic .u16) rfl rfl (ic_len _) (ic_one _) Try.underlying22 elem27 (.slice A1 m1 c1) (cutTo l i j) (some ⟨wr.heap.size, 0, none⟩) 1 1 [gi l j] rfl rfl (hR.out.1.alloc _) (Rd.box _ _ _ _) (by simp [maxLen]; omega) (by omega) ?_; intro v1 w1 h1 g1 a1; obtain ⟨A2, m2, c2, rfl⟩ := h1.form)
                    have hn1 : Row w1 27 1 (ic .u16) (.slice A2 m2 c2) (cutTo l i (j + 1)) ∧ Keep w w1 ∧ ∀ k, (Value.slice A2 m2 c2).ownBlock = some k → w.heap.size ≤ k := by
                      refine ⟨by rw [hst.out]; exact h1, (hR.out.2.1.alloc _).grown g1 fun k hk => .inr (hR.out.2.2 k hk), fun k hk => ?_⟩
                      rcases a1 with e | e <;> rw [e] at hk
                      · exact hR.out.2.2 k hk
                      · have := hR.out.2.1.size
                        simp at hk
                        omega
                    go_roundw
                    case rel => exact ⟨j + 1, by omega, by go_num, ⟨_, _, _, rfl⟩, hide hn1⟩
                    case measure => simp [intOf]; omega
                · obtain rfl : j = len := by omega
                  go_wp2_with fail
                  go_ret2
                  have hres := hq.out.put n.toNat (by omega) (l := cutTo l i j) (Nat.le_trans (cutTo_length _ _ _) hll8) (fun x hx => hu.out x (by
                    unfold cutTo at hx
                    exact List.mem_of_mem_take (List.mem_of_mem_eraseIdx hx))) hc (grown_of_mod (hR.out.2.1.mono (by simp))) hR.out.1 (fun k hk => .inr (hR.out.2.2 k hk))
                  rw [hlen.out, cutTo_all] at hres
                  exact ⟨rfl, hres⟩
          · have heb : (rk (gi l i) != (r : Int)) = true := by simpa using heq
            replace heq := hide heq
            go_wp2_with (go_at_call 13; refine (rank_ref _ _ (hu.out.gi _)).mono ?_; rintro e w' ⟨rfl, rfl⟩)
            go_round
            case rel =>
              refine ⟨i + 1, by omega, by go_num, hide fun j hj => ?_⟩
              by_cases e : j = i
              · subst e; exact heq.out
              · exact hno.out j (by omega)
            case measure => simp [intOf]; omega
        · obtain rfl : i = len := by omega
          go_wp2_with fail
          go_round
          case rel => exact ⟨r + 1, by omega, by go_num, hide fun j hj => by have := hge.out j hj; have := hno.out j hj; omega⟩
          case measure => simp [intOf]; omega
    · exfalso
      have h1 := hge.out 0 hpos
      have h2 : rk (gi l 0) ≤ 3 := by unfold rk; split <;> (try split) <;> (try split) <;> decide
      omega
end Go.Proofs.Ytkkhnolokabbgaa
