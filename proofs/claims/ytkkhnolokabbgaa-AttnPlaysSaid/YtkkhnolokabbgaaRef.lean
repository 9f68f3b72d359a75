/-
  The walks of package palletref07: what its queues do, said of eight lists of codes. Conditions: queues that read as lists of at most eight codes each, rows of their own.
-/
import Derived.Test.YtkkhnolokabbgaaAll
namespace Go.Proofs.Ytkkhnolokabbgaa
open Go.RowKit

/-- The document's queues: block b holds eight rows, no two in one block; all lies in F. -/
def R (w : World) (b : Nat) (L : Nat → List Int) (F : Nat → Prop) : Prop :=
  ∃ cs : Array Value, w.heap[b]? = some (.cells cs 39 (0, 0)) ∧ cs.size = 8 ∧ F b ∧
    (∀ i, i < 8 → (L i).length ≤ 8 ∧ All16 (L i) ∧ ∃ v, cs[i]? = some v ∧ Row w 27 1 (ic .u16) v (L i) ∧ ∀ k, v.ownBlock = some k → F k) ∧
    ∀ (i j : Nat) (u v : Value) (k : Nat), i ≠ j → cs[i]? = some u → cs[j]? = some v → u.ownBlock = some k → v.ownBlock ≠ some k

theorem R.mono {w : World} {b : Nat} {L : Nat → List Int} {F G : Nat → Prop} (h : R w b L F) (hG : ∀ k, F k → G k) : R w b L G := by
  obtain ⟨cs, h1, h2, h3, h4, h5⟩ := h
  refine ⟨cs, h1, h2, hG _ h3, fun i hi => ?_, h5⟩
  obtain ⟨k1, k2, v, k3, k4, k5⟩ := h4 i hi
  exact ⟨k1, k2, v, k3, k4, fun k hk => hG k (k5 k hk)⟩
theorem R.mod {w w' : World} {b : Nat} {L : Nat → List Int} {F G : Nat → Prop} (h : R w b L F) (hm : Mod G w w') (hd : ∀ k, F k → ¬ G k) : R w' b L F := by
  obtain ⟨cs, h1, h2, h3, h4, h5⟩ := h
  refine ⟨cs, hm.heap h1 (hd _ h3), h2, h3, fun i hi => ?_, h5⟩
  obtain ⟨k1, k2, v, k3, k4, k5⟩ := h4 i hi
  exact ⟨k1, k2, v, k3, k4.mod hm fun k hk => hd k (k5 k hk), k5⟩
theorem R.drewN {w : World} {b : Nat} {L : Nat → List Int} {F : Nat → Prop} (h : R w b L F) (n : Nat) : R (w.drewN n) b L F := h
theorem R.lt {w : World} {b : Nat} {L : Nat → List Int} {F : Nat → Prop} (h : R w b L F) : b < w.heap.size := by
  obtain ⟨cs, h1, _⟩ := h
  exact (Array.getElem?_eq_some_iff.1 h1).1
theorem R.bound {w : World} {b : Nat} {L : Nat → List Int} {F : Nat → Prop} (h : R w b L F) : R w b L (fun k => F k ∧ k < w.heap.size) := by
  obtain ⟨cs, h1, h2, h3, h4, h5⟩ := h
  refine ⟨cs, h1, h2, ⟨h3, (Array.getElem?_eq_some_iff.1 h1).1⟩, fun i hi => ?_, h5⟩
  obtain ⟨k1, k2, v, k3, k4, k5⟩ := h4 i hi
  exact ⟨k1, k2, v, k3, k4, fun k hk => ⟨k5 k hk, k4.lt k hk⟩⟩
theorem R.congr {w : World} {b : Nat} {L L' : Nat → List Int} {F : Nat → Prop} (h : R w b L F) (he : ∀ i, i < 8 → L i = L' i) : R w b L' F := by
  obtain ⟨cs, h1, h2, h3, h4, h5⟩ := h
  exact ⟨cs, h1, h2, h3, fun i hi => by rw [← he i hi]; exact h4 i hi, h5⟩
theorem R.at_ {w : World} {b : Nat} {L : Nat → List Int} {F : Nat → Prop} (h : R w b L F) (n : Int) (h0 : 0 ≤ n) (h8 : n < 8) :
    ∃ A cap, w.cell? ⟨b, n.toNat, none⟩ = some (.slice A (L n.toNat).length cap) ∧ w.frozen? ⟨b, n.toNat, none⟩ = false ∧
      (L n.toNat).length ≤ 8 ∧ All16 (L n.toNat) ∧ Row w 27 1 (ic .u16) (.slice A (L n.toNat).length cap) (L n.toNat) ∧ (∀ k, (Value.slice A (L n.toNat).length cap).ownBlock = some k → F k) := by
  obtain ⟨cs, h1, h2, h3, h4, h5⟩ := h
  obtain ⟨k1, k2, v, k3, k4, k5⟩ := h4 n.toNat (by omega)
  obtain ⟨A, c, rfl, hc, hm⟩ := k4.slice
  refine ⟨A, c, ?_, ?_, k1, k2, k4, k5⟩
  · rw [cell_of_row w b _ cs 39 (0, 0) h1, k3]
  · simp [World.frozen?, h1]
/-- One row has been written, or made anew, and is laid in its place. -/
theorem R.put {w w1 : World} {b : Nat} {L : Nat → List Int} {F : Nat → Prop} (h : R w b L F) (n : Nat) (hn : n < 8) {l : List Int} {v : Value} (hl : l.length ≤ 8) (ha : All16 l)
    {A : Option Addr} {len cap : Nat} (hc : w.cell? ⟨b, n, none⟩ = some (.slice A len cap)) (hm : w.grownBy w1 (Value.slice A len cap).ownBlock)
    (hr : Row w1 27 1 (ic .u16) v l) (hv : ∀ k, v.ownBlock = some k → (Value.slice A len cap).ownBlock = some k ∨ w.heap.size ≤ k) :
    R (w1.setCell ⟨b, n, none⟩ v) b (Ytkkhnolokabbgaa.put L n l) (Plus F w (w1.setCell ⟨b, n, none⟩ v)) ∧ Mod F w (w1.setCell ⟨b, n, none⟩ v) := by
  have hsz : (w1.setCell ⟨b, n, none⟩ v).heap.size = w1.heap.size := by simp [World.setCell]
  obtain ⟨cs, h1, h2, h3, h4, h5⟩ := h
  have hcn : cs[n]? = some (.slice A len cap) := by rw [← cell_of_row w b _ cs 39 (0, 0) h1]; exact hc
  obtain ⟨-, -, v0, k3, k4, k5⟩ := h4 n hn
  obtain rfl : v0 = .slice A len cap := by rw [hcn] at k3; exact (Option.some.inj k3).symm
  have hb1 : w1.heap[b]? = some (.cells cs 39 (0, 0)) := (hm.block b (Array.getElem?_eq_some_iff.1 h1).1 (fun e => k4.ne h1 (by decide) e.symm)).trans h1
  have hset : Mod (fun k => k = b) w1 (w1.setCell ⟨b, n, none⟩ v) := (Mod.refl (fun k => k = b) w1).setCell (p := ⟨b, n, none⟩) (.inl rfl) v
  refine ⟨⟨cs.setIfInBounds n v, by simp [World.setCell, Array.getElem?_modify, hb1], by simpa using h2, .inl h3, fun i hi => ?_, ?_⟩, ?_⟩
  · obtain ⟨k1, k2, u, k6, k7, k8⟩ := h4 i hi
    by_cases e : i = n
    · subst e
      refine ⟨by simpa [Ytkkhnolokabbgaa.put] using hl, by simpa [Ytkkhnolokabbgaa.put] using ha, v, by simp [h2, hi], ?_, fun k hk => ?_⟩
      · simp only [Ytkkhnolokabbgaa.put, if_true]
        exact hr.mod hset fun k hk e => hr.ne hb1 (by decide) (e ▸ hk)
      · rcases hv k hk with h | h
        · exact .inl (k5 k h)
        · exact .inr ⟨h, by rw [hsz]; exact hr.lt k hk⟩
    · refine ⟨by simpa [Ytkkhnolokabbgaa.put, e] using k1, by simpa [Ytkkhnolokabbgaa.put, e] using k2, u, ?_, ?_, fun k hk => .inl (k8 k hk)⟩
      · rw [Array.getElem?_setIfInBounds, if_neg (fun h => e h.symm)]; exact k6
      · simp only [Ytkkhnolokabbgaa.put, if_neg e]
        have k9 : Row w1 27 1 (ic .u16) u (L i) := k7.mod (grown_mod hm) fun k hk e' => h5 i n u _ k e k6 hcn hk e'
        exact k9.mod hset fun k hk e' => k9.ne hb1 (by decide) (e' ▸ hk)
  · intro i j u x k hij hu hx hk hk'
    rw [Array.getElem?_setIfInBounds] at hu hx
    by_cases ei : n = i
    · subst ei
      rw [if_neg hij] at hx
      rw [if_pos rfl, if_pos (by omega)] at hu
      obtain rfl : v = u := Option.some.inj hu
      have hj8 : j < 8 := by have := (Array.getElem?_eq_some_iff.1 hx).1; omega
      obtain ⟨-, -, y, k6, k7, k8⟩ := h4 j hj8
      obtain rfl : y = x := by rw [hx] at k6; exact (Option.some.inj k6).symm
      rcases hv k hk with h | h
      · exact h5 n j _ y k hij hcn hx h hk'
      · have := k7.lt k hk'; omega
    · rw [if_neg ei] at hu
      by_cases ej : n = j
      · subst ej
        rw [if_pos rfl, if_pos (by omega)] at hx
        obtain rfl : v = x := Option.some.inj hx
        have hi8 : i < 8 := by have := (Array.getElem?_eq_some_iff.1 hu).1; omega
        obtain ⟨-, -, y, k6, k7, k8⟩ := h4 i hi8
        obtain rfl : y = u := by rw [hu] at k6; exact (Option.some.inj k6).symm
        rcases hv k hk' with h | h
        · exact h5 n i _ y k (fun e => hij e.symm) hcn hu h hk
        · have := k7.lt k hk; omega
      · rw [if_neg ej] at hx
        exact h5 i j u x k hij hu hx hk hk'
  · refine Mod.setCell ?_ (.inl h3) v
    exact (Mod.refl F w).grown hm fun k hk => .inl (k5 k hk)

set_option maxHeartbeats 400000 in
theorem radd_out (b : Nat) (n c : Int) (w : World) (h : n < 0 ∨ 8 ≤ n) :
    Calls Try.prog 15 #[.pointer (some ⟨b, 0, none⟩), .int .i64 n, .int .u16 c] w fun e w' => e = .returned (.tuple #[]) ∧ w = w' := by
  rcases h with h | h
  · have hd : decide (n < 0) = true := by simpa using h
    go_enter Try.func15, Try.ntmps15
    go_wp2
    refine bodyPost_ret (results_none rfl _ _ _) rfl ?_
    exact ⟨rfl, rfl⟩
  · have hd : decide (n < 0) = false := by simp; omega
    have hd2 : decide (7 < n) = true := by simp; omega
    go_enter Try.func15, Try.ntmps15
    go_wp2
    refine bodyPost_ret (results_none rfl _ _ _) rfl ?_
    exact ⟨rfl, rfl⟩

set_option maxHeartbeats 400000 in
theorem radd_power (b : Nat) (n : Int) (L : Nat → List Int) (F : Nat → Prop) (w : World) (h0 : 0 ≤ n) (h8 : n < 8) (hq : R w b L F) :
    Calls Try.prog 15 #[.pointer (some ⟨b, 0, none⟩), .int .i64 n, .int .u16 10496] w fun e w' => e = .returned (.tuple #[]) ∧ R w' b (put L n.toNat (addL (L n.toNat) 10496)) (Plus F w w') ∧ Mod F w w' := by
  obtain ⟨A, cap, hc, hfz, hl8, -, hrow, -⟩ := hq.at_ n h0 h8
  have hblt := hq.lt
  have e : addL (L n.toNat) 10496 = [10496] := rfl
  rw [e]
  clear e hrow
  generalize hl : L n.toNat = l at *
  clear hl
  have hres := hq.put (w1 := w.alloc (.cells #[.int .u16 10496] 27)) n.toNat (by omega) (l := [10496]) (v := .slice (some ⟨w.heap.size, 0, none⟩) 1 1) (by simp) (by intro x hx; simp at hx; subst hx; exact ⟨by decide, by decide⟩) hc (World.grownBy_alloc _ _ _)
    (World.ownsRow_lit (base := 0) (e := 27) (size := 1) w #[.int .u16 10496] 1 (Nat.zero_le _) (by simp [maxLen]) rfl) (by simp [Value.ownBlock])
  have hc1 : (w.alloc (.cells #[.int .u16 10496] 27)).cell? ⟨b, n.toNat, none⟩ = some (.slice A l.length cap) := by rw [World.cell?_alloc_lt _ _ _ hblt]; exact hc
  have hd : decide (n < 0) = false := by simp; omega
  have hd2 : decide (7 < n) = false := by simp; omega
  replace hres := hide hres
  clear hq
  go_enter Try.func15, Try.ntmps15
  go_wp2
  refine bodyPost_ret (results_none rfl _ _ _) rfl ?_
  have hr := hres.out
  rw [World.setCell_alloc_past _ _ _ _ hblt] at hr
  exact ⟨rfl, hr⟩

set_option maxHeartbeats 1000000 in
theorem radd_plain (b : Nat) (n c : Int) (L : Nat → List Int) (F : Nat → Prop) (w : World) (h0 : 0 ≤ n) (h8 : n < 8) (hc16 : U16 c) (hq : R w b L F) (hp : c ≠ 10496) :
    Calls Try.prog 15 #[.pointer (some ⟨b, 0, none⟩), .int .i64 n, .int .u16 c] w fun e w' => e = .returned (.tuple #[]) ∧ R w' b (put L n.toNat (addL (L n.toNat) c)) (Plus F w w') ∧ Mod F w w' := by
  obtain ⟨A, cap, hc, hfz, hl8, hu, hrow, hown⟩ := hq.at_ n h0 h8
  have hblt := hq.lt
  have hpb : (c == 10496) = false := by simpa using hp
  generalize hl : L n.toNat = l at *
  have hr := hrow.rd (ic_len _) rfl
  have hob : ∀ k, (Value.slice A l.length cap).ownBlock = some k → k ≠ b := by
    obtain ⟨cs, h1, _⟩ := hq
    intro k hk e
    exact hrow.ne h1 (by decide) (e ▸ hk)
  obtain ⟨len, hlen⟩ : ∃ len, len = l.length := ⟨_, rfl⟩
  rw [← hlen] at hc hr hl8 hrow hown hob
  have hll8 : l.length ≤ 8 := by rw [← hlen]; exact hl8
  have hd : decide (n < 0) = false := by simp; omega
  have hd2 : decide (7 < n) = false := by simp; omega
  replace hlen := hide hlen
  replace hr := hide hr
  replace hu := hide hu
  replace hq := hide hq
  replace hl := hide hl
  replace hp := hide hp
  replace hrow := hide hrow
  replace hown := hide hown
  replace hob := hide hob
  go_enter Try.func15, Try.ntmps15
  go_wp2_with fail
  go_loop [6] (fun i => ∃ k : Nat, k ≤ len ∧ i = .int .i64 k ∧ Hid (∀ j, j < k → gi l j ≠ c)) (fun i => len - (intOf i).toNat)
  case atStart => exact ⟨0, by omega, rfl, hide (fun j hj => by omega)⟩
  case round =>
    obtain ⟨k, hk, rfl, hno⟩ := hrel
    by_cases hlt : k < len
    · obtain ⟨ad, rfl, hck⟩ := hr.out.int k hlt
      by_cases heq : gi l k = c
      · have hb : (gi l k == c) = true := by simpa using heq
        have hmem : c ∈ l := by rw [← heq]; exact gi_mem (by rw [← hlen.out]; exact hlt)
        replace heq := hide heq
        replace hmem := hide hmem
        go_wp2
        refine bodyPost_ret (results_none rfl _ _ _) rfl ?_
        have e : put L n.toNat (addL l c) = L := by
          funext i
          simp only [put, addL, if_neg hp.out, if_pos hmem.out]
          split
          · rename_i h; rw [h, hl.out]
          · rfl
        rw [e]
        exact ⟨rfl, hq.out.mono fun k hk => .inl hk, Mod.refl _ _⟩
      · have hb : (gi l k == c) = false := by simpa using heq
        replace heq := hide heq
        go_wp2
        go_round
        case rel =>
          refine ⟨k + 1, by omega, by go_num, hide fun j hj => ?_⟩
          by_cases e : j = k
          · subst e; exact heq.out
          · exact hno.out j (by omega)
        case measure => simp [intOf]; omega
    · obtain rfl : k = len := by omega
      have hnm : ¬ c ∈ l := fun h => by obtain ⟨j, hj, e⟩ := mem_gi h; exact hno.out j (by rw [hlen.out]; exact hj) e
      replace hnm := hide hnm
      by_cases h88 : k < 8
      · have e : addL l c = l ++ [c] := by simp only [addL, if_neg hp.out, if_neg hnm.out, ← hlen.out, if_pos h88]
        replace e := hide e
        have hbx : Rd (w.alloc (.cells #[.int .u16 c] 27)).drew 1 (ic .u16) (some ⟨w.heap.size, 0, none⟩) 1 [c] := Rd.box w (ic .u16) c 27
        have hc1 : (w.alloc (.cells #[.int .u16 c] 27)).cell? ⟨b, n.toNat, none⟩ = some (.slice A k cap) := by rw [World.cell?_alloc_lt _ _ _ hblt]; exact hc
        have hf1 : (w.alloc (.cells #[.int .u16 c] 27)).frozen? ⟨b, n.toNat, none⟩ = false := (((Mod.refl (fun _ => False) w).alloc (.cells #[.int .u16 c] 27)).frozen (p := ⟨b, n.toNat, none⟩) hblt (by simp)).trans hfz
        have hrow1 : Row (w.alloc (.cells #[.int .u16 c] 27)).drew 27 1 (ic .u16) (.slice A k cap) l := hrow.out.alloc _
        replace hrow1 := hide hrow1
        replace hbx := hide hbx
        go_wp2
        go_region_law (first
          | (refine step_app (.tmp 59) (.tmp 61) 22 27 (.int .u16 0) 1 2 (ic .u16) rfl rfl (ic_len _) (ic_one _) Try.underlying22 elem27 (.slice A k cap) l (some ⟨w.heap.size, 0, none⟩) 1 1 [c] ?_ ?_ hrow1.out hbx.out ?_ ?_ ?_
             (simp [Act.eval])
             (simp [Act.eval])
             (simp [maxLen]; omega)
             (omega)
             intro v2 w2 h2 g2 a2
             have hg : w.grownBy w2 (Value.slice A k cap).ownBlock := grown_of_mod ((((Mod.refl _ w).alloc _).drew).grown g2 fun k hk => .inl hk)
             have hc2 : w2.cell? ⟨b, n.toNat, none⟩ = some (.slice A k cap) := (grown_mod hg).cell hc (fun e => hob.out _ e rfl)
             have hf2 : w2.frozen? ⟨b, n.toNat, none⟩ = false := ((grown_mod hg).frozen (p := ⟨b, n.toNat, none⟩) hblt (fun e => hob.out _ e rfl)).trans hfz
             obtain ⟨A2, n2, cap2, rfl⟩ := h2.form))
        all_goals
          go_end0
          have hres := hq.out.put n.toNat (by omega) (l := l ++ [c]) (by have := hlen.out; simp; omega) (by
            intro x hx
            simp at hx
            rcases hx with hx | rfl
            · exact hu.out x hx
            · exact hc16) hc hg h2 (fun j hj => by
              rcases a2 with e | e <;> rw [e] at hj
              · exact .inl hj
              · simp at hj; right; omega)
          rw [e.out]
          exact ⟨rfl, hres⟩
      · have e : addL l c = l := by simp only [addL, if_neg hp.out, if_neg hnm.out, ← hlen.out, if_neg h88]
        replace e := hide e
        go_wp2
        go_end0
        have e : put L n.toNat (addL l c) = L := by
          funext i
          simp only [put, e.out]
          split
          · rename_i h; rw [h, hl.out]
          · rfl
        rw [e]
        exact ⟨rfl, hq.out.mono fun k hk => .inl hk, Mod.refl _ _⟩

theorem radd_some (b : Nat) (n c : Int) (L : Nat → List Int) (F : Nat → Prop) (w : World) (h0 : 0 ≤ n) (h8 : n < 8) (hc16 : U16 c) (hq : R w b L F) :
    Calls Try.prog 15 #[.pointer (some ⟨b, 0, none⟩), .int .i64 n, .int .u16 c] w fun e w' => e = .returned (.tuple #[]) ∧ R w' b (put L n.toNat (addL (L n.toNat) c)) (Plus F w w') ∧ Mod F w w' := by
  by_cases h : c = 10496
  · subst h; exact radd_power b n L F w h0 h8 hq
  · exact radd_plain b n c L F w h0 h8 hc16 hq h
end Go.Proofs.Ytkkhnolokabbgaa
