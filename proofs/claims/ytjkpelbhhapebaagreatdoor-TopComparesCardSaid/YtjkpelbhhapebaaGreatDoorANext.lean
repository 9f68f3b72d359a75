/-
  The walk of (*attn.Queues).Next. Conditions: queues that read as lists of at most eight codes, a nexus within 0 to 7.
-/
import Derived.Test.YtjkpelbhhapebaaGreatDoorAAttn
namespace Go.Proofs.YtjkpelbhhapebaaGreatDoor.A
open Go.RowKit
set_option maxRecDepth 100000

set_option maxHeartbeats 400000 in
theorem next_none (p : Option Addr) (n : Int) (w : World) (R : World → Prop)
    (hf : Calls Tryz.prog 49 #[.pointer p, .int .i64 n] w fun e w' => e = .returned (.int .i64 (-1)) ∧ R w') :
    Calls Tryz.prog 24 #[.pointer p, .int .i64 n] w fun e w' => e = .returned (.tuple #[.int .u16 0, .bool false]) ∧ R w' := by
  replace hf := hide hf
  go_enter Tryz.func24, Tryz.ntmps24
  go_wp2_with (go_at_call 49; refine hf.out.mono ?_; rintro e w' ⟨rfl, hR⟩)
  go_ret2
  exact ⟨rfl, hR⟩

theorem pass {w w0 : World} {p1 p2 : Addr} {v1 v2 : Value} {A1 A2 : Option Addr} {n1 n2 m : Nat} {l1 l2 : List Int} (hc : w.cell? p1 = some v1) (hck : w.cell? p2 = some v2) (h1 : Hid (Rd w 1 (ic .u16) A1 n1 l1)) (h2 : Hid (Rd w 1 (ic .u16) A2 n2 l2)) (hm : w0 = w.drewN m) :
    w0.cell? p1 = some v1 ∧ w0.cell? p2 = some v2 ∧ Hid (Keep w w0) ∧ Hid (Rd w0 1 (ic .u16) A1 n1 l1) ∧ Hid (Rd w0 1 (ic .u16) A2 n2 l2) := by
  subst hm
  exact ⟨hc, hck, hide ((Mod.refl _ w).drewN m), h1, h2⟩

set_option maxHeartbeats 1000000 in
theorem next_some (b : Nat) (n : Int) (L : Nat → List Int) (F : Nat → Prop) (w : World) (h0 : 0 ≤ n) (h8 : n < 8) (hq : Q w b L F) (i : Nat) (hi : fi (L n.toNat) (L n.toNat).length = (i : Int)) :
    Calls Tryz.prog 24 #[.pointer (some ⟨b, 0, none⟩), .int .i64 n] w fun e w' =>
      e = .returned (.tuple #[.int .u16 (gi (L n.toNat) i), .bool true]) ∧ Q w' b (put L n.toNat ((L n.toNat).take i ++ (L n.toNat).drop (i + 1))) (Plus F w w') ∧ Mod F w w' := by
  obtain ⟨A, cap, hc, hfz, hcap, hcm, hl8, hu, hr⟩ := hq.at_ n h0 h8
  have hblt := hq.lt
  have hf := first_some b n L F w h0 h8 hq
  obtain ⟨f1, -, -⟩ := fi_lt (L n.toNat) (L n.toNat).length
  rw [hi] at hf f1
  generalize hl : L n.toNat = l at *
  clear hi hl
  have hil : i < l.length := by omega
  obtain ⟨ad, rfl, hck⟩ := hr.int i hil
  obtain ⟨len, hlen⟩ : ∃ len, len = l.length := ⟨_, rfl⟩
  rw [← hlen] at hc hr hl8 hcap hil
  have hll8 : l.length ≤ 8 := by rw [← hlen]; exact hl8
  replace hlen := hide hlen
  have hr1 := hide (hr.take i (by omega))
  have hr2 := hide (hr.cut (i + 1) (by omega) hcap)
  clear hr
  replace hu := hide hu
  replace hq := hide hq
  replace hf := hide hf
  simp only [maxLen] at hcm
  have q1 : i ≤ cap := by omega
  have q2 : IntKind.i64.wrap ((i : Int) + 1) = (i : Int) + 1 := IntWalk.i64_in _ (by omega)
  have q3 : (0 : Int) ≤ (i : Int) + 1 := by omega
  have q4 : ((i : Int) + 1).toNat = i + 1 := by omega
  have q5 : i + 1 ≤ len := by omega
  have q6 : (i : Int) + 1 ≤ (len : Int) := by omega
  go_enter Tryz.func24, Tryz.ntmps24
  go_wp2_with (go_at_call 49; refine hf.out.mono ?_; rintro e w0 ⟨rfl, m, hm⟩; obtain ⟨hc0, hck0, k0, hr10, hr20⟩ := pass hc hck hr1 hr2 hm; clear hm)
  go_region_law (first
    | (refine step_app (.const (.slice none 0 0)) (.tmp 28) 146 30 (.int .u16 0) 1 2 (ic .u16) rfl rfl (ic_len _) (ic_one _) Tryz.underlying146 elem27 (.slice none 0 0) [] (some ad) i cap (l.take i) rfl ?_ (Row.nil _ _ _ _) hr10.out.drew ?_ ?_ ?_
       (simp [Act.put, Act.eval])
       (simp [maxLen]; omega)
       (simp; omega)
       intro v1 w1 h1 g1 a1
       have m1 : Keep w w1 := Mod.grown (Mod.drew k0.out) g1 (fun _ hk => nomatch hk)
       have o1 : ∀ k, v1.ownBlock = some k → w.heap.size ≤ k := by
         intro k hk
         have := k0.out.size
         rcases a1 with e | e <;> (rw [e] at hk; simp [Value.ownBlock] at hk)
         omega)
    | (refine step_app (.tmp 29) (.tmp 33) 146 30 (.int .u16 0) 1 2 (ic .u16) rfl rfl (ic_len _) (ic_one _) Tryz.underlying146 elem27 v1 ([] ++ l.take i) (if cap = i + 1 then some ad else some (ad.add (i + 1))) (len - (i + 1)) (cap - (i + 1)) (l.drop (i + 1)) ?_ ?_ h1 ?_ ?_ ?_ ?_
       (simp [Act.eval])
       (simp [Act.eval, Addr.add])
       (exact hr2.out.mod m1 (fun _ _ h => h))
       (simp [maxLen]; omega)
       (simp; omega)
       intro v2 w2 h2 g2 a2
       have m2 : Keep w w2 := m1.grown g2 (fun k hk => .inr (o1 k hk))
       have o2 : ∀ k, v2.ownBlock = some k → w.heap.size ≤ k := by
         intro k hk
         rcases a2 with e | e <;> rw [e] at hk
         · exact o1 k hk
         · have := m1.size
           simp at hk
           omega
       have hc2 := m2.cell hc (by simp)
       have hf2 : w2.frozen? ⟨b, n.toNat, none⟩ = false := (m2.frozen (p := ⟨b, n.toNat, none⟩) hblt (by simp)).trans hfz
       obtain ⟨A2, n2, cap2, rfl⟩ := h2.form))
  go_wp2
  all_goals
    go_ret2
    have hs := hq.out.stored m2 n.toNat (by have := hlen.out; simp; omega) (by
      intro x hx
      simp only [List.nil_append, List.mem_append] at hx
      rcases hx with hx | hx
      · exact hu.out x (List.mem_of_mem_take hx)
      · exact hu.out x (List.mem_of_mem_drop hx)) h2 o2
    exact ⟨rfl, hs⟩
end Go.Proofs.YtjkpelbhhapebaaGreatDoor.A
