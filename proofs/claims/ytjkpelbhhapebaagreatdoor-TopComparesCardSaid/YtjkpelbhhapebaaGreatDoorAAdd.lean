/-
  The walk of (*attn.Queues).Add. Conditions: queues that read as lists of at most eight codes, a nexus within 0 to 7, a code within its kind.
-/
import Derived.Test.YtjkpelbhhapebaaGreatDoorAAttn
namespace Go.Proofs.YtjkpelbhhapebaaGreatDoor.A
open Go.RowKit
set_option maxRecDepth 100000

set_option maxHeartbeats 1000000 in
theorem add_plain (b : Nat) (n c : Int) (L : Nat → List Int) (F : Nat → Prop) (w : World) (h0 : 0 ≤ n) (h8 : n < 8) (hc16 : U16 c) (hq : Q w b L F) (hp : c ≠ 10496) :
    Calls Tryz.prog 69 #[.pointer (some ⟨b, 0, none⟩), .int .i64 n, .int .u16 c] w fun e w' => e = .returned (.tuple #[]) ∧ Q w' b (put L n.toNat (addL (L n.toNat) c)) (Plus F w w') ∧ Mod F w w' := by
  obtain ⟨A, cap, hc, hfz, -, -, hl8, hu, hr⟩ := hq.at_ n h0 h8
  have hblt := hq.lt
  have hpb : (c == 10496) = false := by simpa using hp
  generalize hl : L n.toNat = l at *
  obtain ⟨len, hlen⟩ : ∃ len, len = l.length := ⟨_, rfl⟩
  rw [← hlen] at hc hr hl8
  have hll8 : l.length ≤ 8 := by rw [← hlen]; exact hl8
  replace hlen := hide hlen
  replace hr := hide hr
  replace hu := hide hu
  replace hq := hide hq
  replace hl := hide hl
  replace hp := hide hp
  go_enter Tryz.func69, Tryz.ntmps69
  go_wp2_with (go_at_call 76; refine (in_some _ _ _).mono ?_; rintro e w' ⟨rfl, rfl⟩)
  go_loop [23] (fun i => ∃ k : Nat, k ≤ len ∧ i = .int .i64 k ∧ Hid (∀ j, j < k → gi l j ≠ c)) (fun i => len - (intOf i).toNat)
  case atStart => exact ⟨0, by omega, rfl, hide (fun j hj => by omega)⟩
  case round =>
    obtain ⟨k, hk, rfl, hno⟩ := hrel
    by_cases hlt : k < len
    · obtain ⟨ad, rfl, hck⟩ := hr.out.int k hlt
      by_cases heq : gi l k = c
      · have hb : (gi l k == c) = true := by simpa using heq
        have hmem : c ∈ l := by rw [← heq]; exact gi_mem (by rw [← hlen.out]; exact hlt)
        replace heq := hide heq
        replace hmem := hide hmem
        go_wp2
        refine bodyPost_ret (results_none rfl _ _ _) rfl ?_
        have e : put L n.toNat (addL l c) = L := by
          funext i
          simp only [put, addL, if_neg hp.out, if_pos hmem.out]
          split
          · rename_i h; rw [h, hl.out]
          · rfl
        rw [e]
        exact ⟨rfl, hq.out.mono fun k hk => .inl hk, Mod.refl _ _⟩
      · have hb : (gi l k == c) = false := by simpa using heq
        replace heq := hide heq
        go_wp2
        go_round
        case rel =>
          refine ⟨k + 1, by omega, by go_num, hide fun j hj => ?_⟩
          by_cases e : j = k
          · subst e; exact heq.out
          · exact hno.out j (by omega)
        case measure => simp [intOf]; omega
    · obtain rfl : k = len := by omega
      have hnm : ¬ c ∈ l := fun h => by obtain ⟨j, hj, e⟩ := mem_gi h; exact hno.out j (by rw [hlen.out]; exact hj) e
      replace hnm := hide hnm
      by_cases h88 : k < 8
      · have e : addL l c = ([] ++ l) ++ [c] := by simp only [addL, if_neg hp.out, if_neg hnm.out, ← hlen.out, if_pos h88, List.nil_append]
        replace e := hide e
        have hbx : Rd (w.alloc (.cells #[.int .u16 c] 30)).drew 1 (ic .u16) (some ⟨w.heap.size, 0, none⟩) 1 [c] := Rd.box w (ic .u16) c 30
        replace hbx := hide hbx
        go_wp2
        go_region_law (first
          | (refine step_app (.const (.slice none 0 0)) (.tmp 36) 146 30 (.int .u16 0) 1 2 (ic .u16) rfl rfl (ic_len _) (ic_one _) Tryz.underlying146 elem27 (.slice none 0 0) [] A k cap l rfl ?_ (Row.nil _ _ _ _) ?_ ?_ ?_ ?_
             (simp [Act.put, Act.eval])
             (first | exact hr.out.drew | exact (hr.out.alloc _).drew)
             (simp [maxLen]; omega)
             (simp; omega)
             intro v1 w1 h1 g1 a1
             have m1 : Keep w w1 := by
               first
                 | exact Mod.grown (Mod.drew (Mod.refl _ w)) g1 (fun _ hk => nomatch hk)
                 | exact Mod.grown (Mod.drew (Mod.alloc (Mod.refl _ w) _)) g1 (fun _ hk => nomatch hk)
             have o1 : ∀ k, v1.ownBlock = some k → w.heap.size ≤ k := by
               intro k hk
               rcases a1 with e | e <;> (rw [e] at hk; simp [Value.ownBlock] at hk)
               omega)
          | (refine step_app (.tmp 37) (.tmp 39) 146 30 (.int .u16 0) 1 2 (ic .u16) rfl rfl (ic_len _) (ic_one _) Tryz.underlying146 elem27 v1 ([] ++ l) (some ⟨w1.heap.size, 0, none⟩) 1 1 [c] ?_ ?_ (h1.alloc _) ?_ ?_ ?_ ?_
             (simp [Act.eval])
             (simp [Act.eval])
             (exact Rd.box _ (ic .u16) c _)
             (simp [maxLen]; omega)
             (simp; omega)
             intro v2 w2 h2 g2 a2
             have m2 : Keep w w2 := Mod.grown (Mod.alloc m1 _) g2 (fun k hk => .inr (o1 k hk))
             have o2 : ∀ k, v2.ownBlock = some k → w.heap.size ≤ k := by
               intro k hk
               rcases a2 with e | e <;> rw [e] at hk
               · exact o1 k hk
               · have := m1.size
                 simp at hk
                 omega
             have hc2 := m2.cell hc (by simp)
             have hf2 : w2.frozen? ⟨b, n.toNat, none⟩ = false := (m2.frozen (p := ⟨b, n.toNat, none⟩) hblt (by simp)).trans hfz
             obtain ⟨A2, n2, cap2, rfl⟩ := h2.form)
          | (refine step_app (.tmp 37) (.tmp 39) 146 30 (.int .u16 0) 1 2 (ic .u16) rfl rfl (ic_len _) (ic_one _) Tryz.underlying146 elem27 v1 ([] ++ l) (some ⟨w.heap.size, 0, none⟩) 1 1 [c] ?_ ?_ h1 ?_ ?_ ?_ ?_
             (simp [Act.eval])
             (simp [Act.eval])
             (exact hbx.out.mod (grown_mod g1) (fun _ _ h => nomatch h))
             (simp [maxLen]; omega)
             (simp; omega)
             intro v2 w2 h2 g2 a2
             have m2 : Keep w w2 := Mod.grown m1 g2 (fun k hk => .inr (o1 k hk))
             have o2 : ∀ k, v2.ownBlock = some k → w.heap.size ≤ k := by
               intro k hk
               rcases a2 with e | e <;> rw [e] at hk
               · exact o1 k hk
               · have := m1.size
                 simp at hk
                 omega
             have hc2 := m2.cell hc (by simp)
             have hf2 : w2.frozen? ⟨b, n.toNat, none⟩ = false := (m2.frozen (p := ⟨b, n.toNat, none⟩) hblt (by simp)).trans hfz
             obtain ⟨A2, n2, cap2, rfl⟩ := h2.form))
        all_goals
          go_end0
          have hs := hq.out.stored m2 n.toNat (by have := hlen.out; simp; omega) (by
            intro x hx
            simp at hx
            rcases hx with hx | rfl
            · exact hu.out x hx
            · exact hc16) h2 o2
          rw [e.out]
          exact ⟨rfl, hs⟩
      · have e : addL l c = l := by simp only [addL, if_neg hp.out, if_neg hnm.out, ← hlen.out, if_neg h88]
        replace e := hide e
        go_wp2
        go_end0
        have e : put L n.toNat (addL l c) = L := by
          funext i
          simp only [put, e.out]
          split
          · rename_i h; rw [h, hl.out]
          · rfl
        rw [e]
        exact ⟨rfl, hq.out.mono fun k hk => .inl hk, Mod.refl _ _⟩

set_option maxHeartbeats 1000000 in
theorem add_power (b : Nat) (n : Int) (L : Nat → List Int) (F : Nat → Prop) (w : World) (h0 : 0 ≤ n) (h8 : n < 8) (hq : Q w b L F) :
    Calls Tryz.prog 69 #[.pointer (some ⟨b, 0, none⟩), .int .i64 n, .int .u16 10496] w fun e w' => e = .returned (.tuple #[]) ∧ Q w' b (put L n.toNat (addL (L n.toNat) 10496)) (Plus F w w') ∧ Mod F w w' := by
  obtain ⟨A, cap, hc, hfz, -, -, hl8, -, -⟩ := hq.at_ n h0 h8
  have hblt := hq.lt
  have e : addL (L n.toNat) 10496 = ([] ++ []) ++ [10496] := rfl
  rw [e]
  clear e
  generalize hl : L n.toNat = l at *
  replace hq := hide hq
  clear hl
  have hbx : Rd (w.alloc (.cells #[.int .u16 10496] 30)).drew 1 (ic .u16) (some ⟨w.heap.size, 0, none⟩) 1 [10496] := Rd.box w (ic .u16) 10496 30
  replace hbx := hide hbx
  go_enter Tryz.func69, Tryz.ntmps69
  go_wp2_with (go_at_call 76; refine (in_some _ _ _).mono ?_; rintro e w' ⟨rfl, rfl⟩)
  go_loop [23] (fun i => i = .int .i64 0) (fun i => 0)
  case atStart => rfl
  case round =>
    subst hrel
    go_wp2
    go_region_law (first
      | (refine step_app (.const (.slice none 0 0)) (.tmp 36) 146 30 (.int .u16 0) 1 2 (ic .u16) rfl rfl (ic_len _) (ic_one _) Tryz.underlying146 elem27 (.slice none 0 0) [] none 0 0 [] rfl ?_ (Row.nil _ _ _ _) ?_ ?_ ?_ ?_
         (simp [Act.put, Act.eval])
         (exact Rd.none_ _ _ _ _)
         (simp)
         (simp)
         intro v1 w1 h1 g1 a1
         have m1 : Keep w w1 := by
           first
             | exact Mod.grown (Mod.drew (Mod.refl _ w)) g1 (fun _ hk => nomatch hk)
             | exact Mod.grown (Mod.drew (Mod.alloc (Mod.refl _ w) _)) g1 (fun _ hk => nomatch hk)
         have o1 : ∀ k, v1.ownBlock = some k → w.heap.size ≤ k := by
           intro k hk
           rcases a1 with e | e <;> (rw [e] at hk; simp [Value.ownBlock] at hk)
           omega)
      | (refine step_app (.tmp 37) (.tmp 39) 146 30 (.int .u16 0) 1 2 (ic .u16) rfl rfl (ic_len _) (ic_one _) Tryz.underlying146 elem27 v1 ([] ++ []) (some ⟨w1.heap.size, 0, none⟩) 1 1 [10496] ?_ ?_ (h1.alloc _) ?_ ?_ ?_ ?_
         (simp [Act.eval])
         (simp [Act.eval])
         (exact Rd.box _ (ic .u16) 10496 _)
         (simp [maxLen])
         (simp)
         intro v2 w2 h2 g2 a2
         have m2 : Keep w w2 := Mod.grown (Mod.alloc m1 _) g2 (fun k hk => .inr (o1 k hk))
         have o2 : ∀ k, v2.ownBlock = some k → w.heap.size ≤ k := by
           intro k hk
           rcases a2 with e | e <;> rw [e] at hk
           · exact o1 k hk
           · have := m1.size
             simp at hk
             omega
         have hc2 := m2.cell hc (by simp)
         have hf2 : w2.frozen? ⟨b, n.toNat, none⟩ = false := (m2.frozen (p := ⟨b, n.toNat, none⟩) hblt (by simp)).trans hfz
         obtain ⟨A2, n2, cap2, rfl⟩ := h2.form)
      | (refine step_app (.tmp 37) (.tmp 39) 146 30 (.int .u16 0) 1 2 (ic .u16) rfl rfl (ic_len _) (ic_one _) Tryz.underlying146 elem27 v1 ([] ++ []) (some ⟨w.heap.size, 0, none⟩) 1 1 [10496] ?_ ?_ h1 ?_ ?_ ?_ ?_
         (simp [Act.eval])
         (simp [Act.eval])
         (exact hbx.out.mod (grown_mod g1) (fun _ _ h => nomatch h))
         (simp [maxLen])
         (simp)
         intro v2 w2 h2 g2 a2
         have m2 : Keep w w2 := Mod.grown m1 g2 (fun k hk => .inr (o1 k hk))
         have o2 : ∀ k, v2.ownBlock = some k → w.heap.size ≤ k := by
           intro k hk
           rcases a2 with e | e <;> rw [e] at hk
           · exact o1 k hk
           · have := m1.size
             simp at hk
             omega
         have hc2 := m2.cell hc (by simp)
         have hf2 : w2.frozen? ⟨b, n.toNat, none⟩ = false := (m2.frozen (p := ⟨b, n.toNat, none⟩) hblt (by simp)).trans hfz
         obtain ⟨A2, n2, cap2, rfl⟩ := h2.form))
    all_goals
      go_end0
      have hs := hq.out.stored m2 n.toNat (by simp) (by
        intro x hx
        simp at hx
        subst hx
        exact ⟨by decide, by decide⟩) h2 o2
      exact ⟨rfl, hs⟩

theorem add_some (b : Nat) (n c : Int) (L : Nat → List Int) (F : Nat → Prop) (w : World) (h0 : 0 ≤ n) (h8 : n < 8) (hc16 : U16 c) (hq : Q w b L F) :
    Calls Tryz.prog 69 #[.pointer (some ⟨b, 0, none⟩), .int .i64 n, .int .u16 c] w fun e w' => e = .returned (.tuple #[]) ∧ Q w' b (put L n.toNat (addL (L n.toNat) c)) (Plus F w w') ∧ Mod F w w' := by
  by_cases h : c = 10496
  · subst h; exact add_power b n L F w h0 h8 hq
  · exact add_plain b n c L F w h0 h8 hc16 hq h

set_option maxHeartbeats 400000 in
theorem add_out (b : Nat) (n c : Int) (w : World) (h : n < 0 ∨ 8 ≤ n) :
    Calls Tryz.prog 69 #[.pointer (some ⟨b, 0, none⟩), .int .i64 n, .int .u16 c] w fun e w' => e = .returned (.tuple #[]) ∧ w = w' := by
  have hin : Calls Tryz.prog 76 #[.pointer (some ⟨b, 0, none⟩), .int .i64 n] w fun e w' => e = .returned (.bool false) ∧ w = w' := by
    refine (in_some _ n w).mono fun e w' hh => ⟨hh.1.trans (ret_bool ?_), hh.2⟩
    simp
    omega
  clear h
  go_enter Tryz.func69, Tryz.ntmps69
  go_wp2_with (go_at_call 76; refine hin.mono ?_; rintro e w' ⟨rfl, rfl⟩)
  refine bodyPost_ret (results_none rfl _ _ _) rfl ?_
  exact ⟨rfl, rfl⟩
end Go.Proofs.YtjkpelbhhapebaaGreatDoor.A
