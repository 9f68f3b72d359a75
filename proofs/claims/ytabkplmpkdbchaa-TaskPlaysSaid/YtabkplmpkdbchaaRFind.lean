/-
  The walks of the document's Find, May and Ready. Conditions: a set of at most a thousand tasks in memory of its own.
-/
import Derived.Test.YtabkplmpkdbchaaRTask
namespace Go.Proofs.Ytabkplmpkdbchaa
open Go.RowKit

set_option maxRecDepth 100000 in
set_option maxHeartbeats 1000000 in
theorem rfind_some (b : Nat) (nx tag : Int) (l : List T) (aca : Int) (F : Nat → Prop) (w : World) (hl : l.length ≤ 1000) (hs : RS w b l aca F) :
    Calls Try.prog 39 #[.pointer (some ⟨b, 0, none⟩), .int .i64 nx, .int .u32 tag] w fun e w' => e = .returned (.int .i64 (fnd l nx tag)) ∧ w = w' := by
  obtain ⟨A, cap, hc, -, -, -, hr, -, -, -⟩ := hs.at_
  clear hs
  obtain ⟨len, hlen⟩ : ∃ len, len = l.length := ⟨_, rfl⟩
  rw [← hlen] at hc hr hl
  replace hlen := hide hlen
  replace hr := hide hr
  go_enter Try.func39, Try.ntmps39
  go_wp2_with fail
  go_loop [7] (fun i => ∃ k : Nat, k ≤ len ∧ i = .int .i64 k ∧ Hid (∀ j, j < k → hit nx tag (gi l j) = false)) (fun i => len - (intOf i).toNat)
  case atStart => exact ⟨0, by omega, rfl, hide fun j hj => by omega⟩
  case round =>
    obtain ⟨k, hk, rfl, hR⟩ := hrel
    by_cases hlt : k < len
    · obtain ⟨ad, rfl, hcell⟩ := hr.out.2 k hlt
      obtain ⟨t, ht⟩ : ∃ t, t = gi l k := ⟨_, rfl⟩
      rw [← ht] at hcell
      have q0 : w.cell? (ad.add (k * 4)) = _ := hcell 0 _ rfl
      have q1 := fld (hcell 1 _ rfl) (by decide)
      clear hcell
      by_cases h1 : t.nx = nx
      · have h1b : (t.nx == nx) = true := by simpa using h1
        by_cases h2 : t.tag = tag
        · have h2b : (t.tag == tag) = true := by simpa using h2
          have hf : fnd l nx tag = (k : Int) := fnd_at (by rw [← hlen.out]; exact hlt) (by simp [hit, ← ht, h1, h2]) hR.out
          replace hf := hide hf
          replace ht := hide ht
          clear h1 h2
          go_wp2_with fail
          go_ret
          exact ⟨ret_int hf.out.symm, rfl⟩
        · have h2b : (t.tag == tag) = false := by simpa using h2
          have hn : ∀ j, j < k + 1 → hit nx tag (gi l j) = false := fun j hj => by
            by_cases e : j = k
            · subst e; simp [hit, ← ht, h2]
            · exact hR.out j (by omega)
          replace hn := hide hn
          replace ht := hide ht
          clear h1 h2
          go_wp2_with fail
          go_round
          case rel => exact ⟨k + 1, by omega, by go_num, hn⟩
          case measure => simp [intOf]; omega
      · have h1b : (t.nx == nx) = false := by simpa using h1
        have hn : ∀ j, j < k + 1 → hit nx tag (gi l j) = false := fun j hj => by
          by_cases e : j = k
          · subst e; simp [hit, ← ht, h1]
          · exact hR.out j (by omega)
        replace hn := hide hn
        replace ht := hide ht
        clear h1
        go_wp2_with fail
        go_round
        case rel => exact ⟨k + 1, by omega, by go_num, hn⟩
        case measure => simp [intOf]; omega
    · obtain rfl : k = len := by omega
      have hf : fnd l nx tag = -1 := fnd_no fun j hj => hR.out j (by rw [hlen.out]; exact hj)
      replace hf := hide hf
      go_wp2_with fail
      go_ret
      exact ⟨ret_int hf.out.symm, rfl⟩

theorem okAt_head {l : List T} {i j : Nat} (h : ¬ (gi l i).at_ = 2) (hj : (gi l j).at_ = 2) : okAt l i j = false := by
  have : j ≠ i := by rintro rfl; exact h hj
  simp [okAt, this, h, hj]
theorem okAt_ord {l : List T} {i j : Nat} (h : ¬ (gi l i).at_ = 2) (hj : j < i) (ho : (gi l i).at_ = 1 ∨ (gi l j).at_ = 1) : okAt l i j = false := by
  have : j ≠ i := by omega
  rcases ho with ho | ho <;> simp [okAt, this, h, hj, ho]
theorem okAt_free {l : List T} {i j : Nat} (hj : ¬ (gi l j).at_ = 2) (ho : j < i → ¬ (gi l i).at_ = 1 ∧ ¬ (gi l j).at_ = 1) : okAt l i j = true := by
  by_cases hlt : j < i
  · simp [okAt, hj, ho hlt]
  · simp [okAt, hj, hlt]

set_option maxRecDepth 100000 in
set_option maxHeartbeats 2000000 in
theorem rmay_some (b i : Nat) (l : List T) (aca : Int) (F : Nat → Prop) (w : World) (hl : l.length ≤ 1000) (hi : i < l.length) (hs : RS w b l aca F) :
    Calls Try.prog 38 #[.pointer (some ⟨b, 0, none⟩), .int .i64 i] w fun e w' => e = .returned (.bool (mayB l aca i)) ∧ Mod (fun _ => False) w w' := by
  obtain ⟨A, cap, hc, ha, -, -, hr, -, -, -⟩ := hs.at_
  have hblt := hs.lt
  clear hs
  obtain ⟨len, hlen⟩ : ∃ len, len = l.length := ⟨_, rfl⟩
  rw [← hlen] at hc hr hl hi
  replace hlen := hide hlen
  obtain ⟨ad, rfl, hc4⟩ := hr.relem i hi
  replace hr := hide hr
  obtain ⟨t, ht⟩ : ∃ t, t = gi l i := ⟨_, rfl⟩
  rw [← ht] at hc4
  replace hc4 := hide hc4
  have hmw : Mod (fun _ => False) w (w.alloc (.cells #[.int .i64 t.nx, .int .u32 t.tag, .int .i64 t.at_, .bool t.st] 67)) := (Mod.refl _ w).alloc _
  have hcB := hmw.cell hc (by simp)
  have haB := hmw.cell ha (by simp)
  replace hmw := hide hmw
  by_cases hst : t.st = true
  · have hres : mayB l aca i = false := by rw [mayB, ← ht, hst]; rfl
    rw [hres]
    replace hres := hide hres
    replace ht := hide ht
    go_enter Try.func38, Try.ntmps38
    go_wp2_with (refine list_load 67 (.tmp 13) rfl rfl _ Try.underlying67 rfl (ad.add (i * 4)) [.int .i64 t.nx, .int .u32 t.tag, .int .i64 t.at_, .bool t.st] size67 rfl hc4.out ?_)
    go_ret
    exact ⟨rfl, (Mod.refl _ w).alloc _⟩
  · have hst : t.st = false := by simpa using hst
    by_cases hac : 0 ≤ aca
    · have hres : mayB l aca i = (t.at_ == 3) := by rw [mayB, ← ht, hst, if_pos hac]; rfl
      rw [hres]
      replace hres := hide hres
      replace ht := hide ht
      have hd : decide (0 ≤ aca) = true := by simpa using hac
      go_enter Try.func38, Try.ntmps38
      go_wp2_with (refine list_load 67 (.tmp 13) rfl rfl _ Try.underlying67 rfl (ad.add (i * 4)) [.int .i64 t.nx, .int .u32 t.tag, .int .i64 t.at_, .bool t.st] size67 rfl hc4.out ?_)
      go_ret
      exact ⟨rfl, (Mod.refl _ w).alloc _⟩
    · have hd : decide (0 ≤ aca) = false := by simpa using hac
      have hac' : aca < 0 := by omega
      have hst2 : (gi l i).st = false := by rw [← ht]; exact hst
      by_cases h2 : t.at_ = 2
      · have hres : mayB l aca i = true := mayB_yes hac' hst2 fun j _ => by rw [okAt, ← ht, h2]; simp
        rw [hres]
        have h2b : (t.at_ == 2) = true := by simpa using h2
        replace hres := hide hres
        replace ht := hide ht
        clear h2 hst2
        go_enter Try.func38, Try.ntmps38
        go_wp2_with (refine list_load 67 (.tmp 13) rfl rfl _ Try.underlying67 rfl (ad.add (i * 4)) [.int .i64 t.nx, .int .u32 t.tag, .int .i64 t.at_, .bool t.st] size67 rfl hc4.out ?_)
        go_ret
        exact ⟨rfl, (Mod.refl _ w).alloc _⟩
      · have h2b : (t.at_ == 2) = false := by simpa using h2
        have h2l : ¬ (gi l i).at_ = 2 := by rw [← ht]; exact h2
        have hno1 : ∀ j, j < len → (gi l j).at_ = 2 → mayB l aca i = false := fun j hj h => mayB_no hac' (by rw [← hlen.out]; exact hj) (okAt_head h2l h)
        have hno2 : ∀ j, j < i → (t.at_ = 1 ∨ (gi l j).at_ = 1) → mayB l aca i = false := fun j hj h => mayB_no hac' (by rw [← hlen.out]; omega) (okAt_ord h2l hj (by rw [← ht]; exact h))
        have hyes : (∀ j, j < len → ¬ (gi l j).at_ = 2) → (∀ j, j < i → ¬ t.at_ = 1 ∧ ¬ (gi l j).at_ = 1) → mayB l aca i = true := fun k1 k2 =>
          mayB_yes hac' hst2 fun j hj => okAt_free (k1 j (by rw [hlen.out]; exact hj)) (by rw [← ht]; exact k2 j)
        obtain ⟨r, hres⟩ : ∃ r, r = mayB l aca i := ⟨_, rfl⟩
        rw [← hres] at hno1 hno2 hyes ⊢
        replace hno1 := hide hno1
        replace hno2 := hide hno2
        replace hyes := hide hyes
        clear hres hac' hst2 h2 h2l
        replace ht := hide ht
        go_enter Try.func38, Try.ntmps38
        go_wp2_with (refine list_load 67 (.tmp 13) rfl rfl _ Try.underlying67 rfl (ad.add (i * 4)) [.int .i64 t.nx, .int .u32 t.tag, .int .i64 t.at_, .bool t.st] size67 rfl hc4.out ?_)
        rw [hst] at hmw hcB haB
        go_loop [6] (fun u => ∃ k : Nat, k ≤ len ∧ u = .int .i64 k ∧ Hid (∀ j, j < k → ¬ (gi l j).at_ = 2)) (fun u => len - (intOf u).toNat)
        case atStart => exact ⟨0, by omega, rfl, hide fun j hj => by omega⟩
        case round =>
          obtain ⟨k, hk, rfl, hR⟩ := hrel
          by_cases hlt : k < len
          · obtain ⟨ad', e', hcell⟩ := (hr.out.mod (F := fun _ => False) hmw.out (by simp)).2 k hlt
            obtain rfl : ad = ad' := by simpa using e'
            clear e'
            obtain ⟨u, hu⟩ : ∃ u, u = gi l k := ⟨_, rfl⟩
            rw [← hu] at hcell
            have q2 := fld (hcell 2 _ rfl) (by decide)
            clear hcell
            by_cases hh : u.at_ = 2
            · have hb : (u.at_ == 2) = true := by simpa using hh
              have hr1 := hno1.out k hlt (by rw [← hu]; exact hh)
              replace hr1 := hide hr1
              replace hu := hide hu
              clear hh
              go_wp2_with fail
              go_ret
              exact ⟨ret_bool hr1.out.symm, hmw.out⟩
            · have hb : (u.at_ == 2) = false := by simpa using hh
              have hn : ∀ j, j < k + 1 → ¬ (gi l j).at_ = 2 := fun j hj => by
                by_cases e : j = k
                · subst e; rw [← hu]; exact hh
                · exact hR.out j (by omega)
              replace hn := hide hn
              replace hu := hide hu
              clear hh
              go_wp2_with fail
              go_round
              case rel => exact ⟨k + 1, by omega, by go_num, hn⟩
              case measure => simp [intOf]; omega
          · obtain rfl : k = len := by omega
            replace hyes := hide (hyes.out hR.out)
            clear hR
            go_wp2_with fail
            go_loop [7] (fun u => ∃ m : Nat, m ≤ i ∧ u = .int .i64 m ∧ Hid (∀ j, j < m → ¬ t.at_ = 1 ∧ ¬ (gi l j).at_ = 1)) (fun u => i - (intOf u).toNat)
            case atStart => exact ⟨0, by omega, rfl, hide fun j hj => by omega⟩
            case round =>
              obtain ⟨m, hm, rfl, hR⟩ := hrel
              by_cases hlt2 : m < i
              · obtain ⟨ad', e', hcell⟩ := (hr.out.mod (F := fun _ => False) hmw.out (by simp)).2 m (by omega)
                obtain rfl : ad = ad' := by simpa using e'
                clear e'
                obtain ⟨u, hu⟩ : ∃ u, u = gi l m := ⟨_, rfl⟩
                rw [← hu] at hcell
                have q2 := fld (hcell 2 _ rfl) (by decide)
                clear hcell
                have hmk : m < k := by omega
                by_cases h1 : t.at_ = 1
                · have hb : (t.at_ == 1) = true := by simpa using h1
                  have hr1 := hno2.out m hlt2 (.inl h1)
                  replace hr1 := hide hr1
                  replace hu := hide hu
                  clear h1
                  go_wp2_with fail
                  go_ret
                  exact ⟨ret_bool hr1.out.symm, hmw.out⟩
                · have hb : (t.at_ == 1) = false := by simpa using h1
                  by_cases hh : u.at_ = 1
                  · have hb2 : (u.at_ == 1) = true := by simpa using hh
                    have hr1 := hno2.out m hlt2 (.inr (by rw [← hu]; exact hh))
                    replace hr1 := hide hr1
                    replace hu := hide hu
                    clear h1 hh
                    go_wp2_with fail
                    go_ret
                    exact ⟨ret_bool hr1.out.symm, hmw.out⟩
                  · have hb2 : (u.at_ == 1) = false := by simpa using hh
                    have hn : ∀ j, j < m + 1 → ¬ t.at_ = 1 ∧ ¬ (gi l j).at_ = 1 := fun j hj => by
                      by_cases e : j = m
                      · subst e; rw [← hu]; exact ⟨h1, hh⟩
                      · exact hR.out j (by omega)
                    replace hn := hide hn
                    replace hu := hide hu
                    clear h1 hh
                    go_wp2_with fail
                    go_round
                    case rel => exact ⟨m + 1, by omega, by go_num, hn⟩
                    case measure => simp [intOf]; omega
              · obtain rfl : m = i := by omega
                have hr1 := hyes.out hR.out
                replace hr1 := hide hr1
                go_wp2_with fail
                go_ret
                exact ⟨ret_bool hr1.out.symm, hmw.out⟩

set_option maxRecDepth 100000 in
set_option maxHeartbeats 2000000 in
theorem rready_some (b : Nat) (l : List T) (aca : Int) (F : Nat → Prop) (w : World) (hl : l.length ≤ 1000) (hs : RS w b l aca F) :
    Calls Try.prog 25 #[.pointer (some ⟨b, 0, none⟩)] w fun e w' => ∃ v, e = .returned v ∧ Row w' 67 4 encR v (readyL l aca) ∧ Mod (fun _ => False) w w' ∧ ∀ k, v.ownBlock = some k → w.heap.size ≤ k := by
  obtain ⟨A, cap, hc, -, -, -, hr, -, -, -⟩ := hs.at_
  obtain ⟨len, hlen⟩ : ∃ len, len = l.length := ⟨_, rfl⟩
  have hlL := hl
  rw [← hlen] at hc hr hl
  have hrl : readyL l aca = readyTo l aca len := by rw [hlen]; rfl
  rw [hrl]
  clear hrl
  replace hlen := hide hlen
  replace hr := hide hr
  replace hs := hide hs
  replace hlL := hide hlL
  have hcw := hide hc
  clear hc
  go_enter Try.func25, Try.ntmps25
  go_wp2_with fail
  go_loopw [3, 4] (fun u v wr => ∃ k : Nat, k ≤ len ∧ v = .int .i64 k ∧ (∃ A m c, u = .slice A m c) ∧ Hid (Row wr 67 4 encR u (readyTo l aca k) ∧ Mod (fun _ => False) w wr ∧ ∀ j, u.ownBlock = some j → w.heap.size ≤ j)) (fun _ v _ => len - (intOf v).toNat)
  case atStart => exact ⟨0, by omega, rfl, ⟨_, _, _, rfl⟩, hide ⟨Row.nil _ _ _ _, Mod.refl _ _, by simp [Value.ownBlock]⟩⟩
  case round =>
    obtain ⟨k, hk, rfl, ⟨A1, m1, c1, rfl⟩, hR⟩ := hrel
    have hcr := hR.out.2.1.cell hcw.out (by simp)
    by_cases hlt : k < len
    · have hmay := rmay_some b k l aca F wr hlL.out (by rw [← hlen.out]; exact hlt) (hs.out.mod hR.out.2.1 (by simp))
      obtain ⟨ad, rfl, -⟩ := hr.out.relem k hlt
      obtain ⟨t, ht⟩ : ∃ t, t = gi l k := ⟨_, rfl⟩
      have hel : ∀ W, Mod (fun _ => False) w W → ∀ j u, ([.int .i64 t.nx, .int .u32 t.tag, .int .i64 t.at_, .bool t.st] : List Value)[j]? = some u → W.cell? ((ad.add (k * 4)).add j) = some u := fun W hm => by
        obtain ⟨ad', e', h4⟩ := (hr.out.mod hm (by simp)).relem k hlt
        obtain rfl : ad = ad' := by simpa using e'
        rw [← ht] at h4
        exact h4
      have hlr := readyTo_length l aca k
      obtain ⟨r, hres⟩ : ∃ r, r = mayB l aca k := ⟨_, rfl⟩
      rw [← hres] at hmay
      replace hmay := hide hmay
      replace hel := hide hel
      cases r
      · have hst : readyTo l aca (k + 1) = readyTo l aca k := readyTo_no hres.symm
        replace hres := hide hres
        replace hst := hide hst
        replace ht := hide ht
        go_wp2_with (first
          | (go_at_call 38; (with_reducible refine hmay.out.mono ?_); rintro e w1 ⟨rfl, hm1⟩))
        go_roundw
        case rel => exact ⟨k + 1, by omega, by go_num, ⟨_, _, _, rfl⟩, hide ⟨by rw [hst.out]; exact hR.out.1.mod hm1 (by simp), hR.out.2.1.trans hm1 (by simp), hR.out.2.2⟩⟩
        case measure => simp [intOf]; omega
      · have hst : readyTo l aca (k + 1) = readyTo l aca k ++ [t] := by rw [ht]; exact readyTo_yes hres.symm
        replace hres := hide hres
        replace hst := hide hst
        replace ht := hide ht
        go_wp2_with (first
          | (go_at_call 38; (with_reducible refine hmay.out.mono ?_); rintro e w1 ⟨rfl, hm1⟩; have hc1 := (hR.out.2.1.trans hm1 (by simp)).cell hcw.out (by simp); replace hm1 := hide hm1)
          | (refine list_load 67 (.tmp 23) rfl rfl _ Try.underlying67 rfl (ad.add (k * 4)) [.int .i64 t.nx, .int .u32 t.tag, .int .i64 t.at_, .bool t.st] size67 rfl (hel.out _ (hR.out.2.1.trans hm1.out (by simp))) ?_)
          | (at_builtin; refine list_app (.tmp 17) (.tmp 25) 53 67 _ 4 32 encR rfl rfl encR_len encR_one Try.underlying53 elem67 (.slice A1 m1 c1) (readyTo l aca k) (some ⟨w1.heap.size, 0, none⟩) 1 1 [t] rfl rfl ((hR.out.1.mod hm1.out (by simp)).alloc _) (Rd.box _ _ _ _) (by simp [maxLen]; omega) (by omega) ?_; intro v2 w2 h2 g2 a2; obtain ⟨A2, m2, c2, rfl⟩ := h2.form))
        have hWm := hR.out.2.1.trans hm1.out (by simp)
        go_roundw
        case rel =>
          refine ⟨k + 1, by omega, by go_num, ⟨_, _, _, rfl⟩, hide ⟨by rw [hst.out]; exact h2, (hWm.alloc _).grown g2 fun j hj => .inr (hR.out.2.2 j hj), fun j hj => ?_⟩⟩
          rcases a2 with e | e <;> rw [e] at hj
          · exact hR.out.2.2 j hj
          · have := hWm.size
            simp at hj
            omega
        case measure => simp [intOf]; omega
    · obtain rfl : k = len := by omega
      go_wp2_with fail
      go_ret
      exact ⟨_, rfl, hR.out⟩
end Go.Proofs.Ytabkplmpkdbchaa
