/-
  The walks of store.empty and block: the block that a record is. Condition: a slice that reads as bytes.
-/
import Derived.Test.YtjkpelbhhapebaaGreatDoorBlk
namespace Go.Proofs.YtjkpelbhhapebaaGreatDoor
open Go.RowKit
set_option maxRecDepth 100000
theorem modRow {F : Nat → Prop} {a w : World} (h : Mod F a w) {g : Nat} (hg : F g ∨ a.heap.size ≤ g) (cs : Array Value) : Mod F a (w.setRow g cs) :=
  ⟨h.os, h.tape, h.output, by simpa using h.size, fun i hi hn => (setRow_other w g i cs (by
    rintro rfl
    rcases hg with hg | hg
    · exact hn hg
    · omega)).trans (h.block i hi hn)⟩
/-- A block that was never written. -/
def emptyB : Bl := ⟨List.replicate 16 0, 65535, 65535, 4294967295⟩
def zeroB : Bl := ⟨List.replicate 16 0, 0, 0, 0⟩
/-- The block that a record is. -/
def decB (p : List Int) : Bl := if p.length < 25 ∨ gi p 0 ≠ 1 then emptyB else ⟨(p.drop 1).take 16, val ((p.drop 17).take 2), val ((p.drop 19).take 2), val ((p.drop 21).take 4)⟩
abbrev zs19 : Array Value := #[.int .u8 0, .int .u8 0, .int .u8 0, .int .u8 0, .int .u8 0, .int .u8 0, .int .u8 0, .int .u8 0, .int .u8 0, .int .u8 0, .int .u8 0, .int .u8 0, .int .u8 0, .int .u8 0, .int .u8 0, .int .u8 0, .int .u16 0, .int .u16 0, .int .u32 0]
theorem zs_ba : zs19 = ba zeroB := rfl
/-- Sixteen bytes are copied into a block's head. -/
theorem copy16 {w : World} {g : Nat} {z : List Int} {tl : List Value} {ad : Addr} {m c : Nat} {src : List Int} (hh : w.heap[g]? = some (.cells (dcs z ++ tl).toArray 259 (0, 0))) (hr : Rd w 1 (ic .u8) (some ad) m src) (hm : 16 ≤ m) (ty : TypeId) :
    ∃ w', (Builtin.copy_ #[22, 22] ty #[.slice (some ⟨g, 0, none⟩) 16 16, .slice (some ad) m c]).run Tryz.prog w = .ok (goInt 16) w' ∧ w'.heap[g]? = some (.cells (dcs (src.take 16) ++ tl).toArray 259 (0, 0)) ∧ Mod (fun k => k = g) w w' := by
  have hl : (src.take 16).length = 16 := by rw [List.length_take, hr.1]; omega
  have hcs : ((src.take 16).map (Value.int .u8)).length = 16 := by rw [List.length_map, hl]
  have h := run_copy_row (P := Tryz.prog) w 22 22 ty 5 g 0 16 16 ad m c _ 259 ((src.take 16).map (Value.int .u8)) Tryz.underlying22 (by kernel_rfl) hh (by rw [hcs]; show 16 = Nat.min m 16; exact (Nat.min_eq_right hm).symm)
    (fun j v hj => by
      rw [List.getElem?_map] at hj
      obtain ⟨x, hx, rfl⟩ := Option.map_eq_some_iff.1 hj
      have hjm : j < 16 := by rw [← hl]; exact (List.getElem?_eq_some_iff.1 hx).1
      obtain ⟨_, e, hc⟩ := hr.int j (by omega)
      obtain rfl := Option.some.inj e
      rw [hc, gi_eq src j (by rw [hr.1]; omega)]
      rw [List.getElem?_take_of_lt hjm, List.getElem?_eq_getElem (by rw [hr.1]; omega)] at hx
      rw [Option.some.inj hx]) (by rw [hcs]; simp [dcs_len]) (fun v hv => by
      simp only [List.mem_map] at hv
      obtain ⟨x, -, rfl⟩ := hv
      rfl)
  rw [hcs] at h
  refine ⟨_, h, ?_, modRow (F := fun k => k = g) (Mod.refl _ _) (.inl rfl) _⟩
  have e : (List.take 0 (dcs z ++ tl).toArray.toList ++ (src.take 16).map (Value.int .u8) ++ List.drop (0 + 16) (dcs z ++ tl).toArray.toList) = dcs (src.take 16) ++ tl := by
    rw [dcs_map hl]
    simp only [List.take_zero, List.nil_append, Nat.zero_add]
    rw [List.drop_left' (dcs_len z)]
  rw [e]
  exact setRow_heap w g _ _ 259 _ hh
/-- A block's tuple is laid. -/
theorem set_tuple {w : World} {g : Nat} {d : List Int} {x y z : Value} (hh : w.heap[g]? = some (.cells (dcs d ++ [x, y, z]).toArray 259 (0, 0))) (a b c : Int) :
    (((w.setCell ⟨g, 16, none⟩ (.int .u16 a)).setCell ⟨g, 17, none⟩ (.int .u16 b)).setCell ⟨g, 18, none⟩ (.int .u32 c)).heap[g]? = some (.cells (ba ⟨d, a, b, c⟩) 259 (0, 0)) ∧
      Mod (fun k => k = g) w (((w.setCell ⟨g, 16, none⟩ (.int .u16 a)).setCell ⟨g, 17, none⟩ (.int .u16 b)).setCell ⟨g, 18, none⟩ (.int .u32 c)) := by
  refine ⟨?_, ?_⟩
  · have h0 := heap_setCell_same w g 16 _ 259 (.int .u16 a) hh
    have h1 := heap_setCell_same _ g 17 _ 259 (.int .u16 b) h0
    have h2 := heap_setCell_same _ g 18 _ 259 (.int .u32 c) h1
    rw [h2]
    have e : (((dcs d ++ [x, y, z]).toArray.setIfInBounds 16 (.int .u16 a)).setIfInBounds 17 (.int .u16 b)).setIfInBounds 18 (.int .u32 c) = ba ⟨d, a, b, c⟩ := by
      have hl := dcs_len d
      generalize hD : dcs d = D at *
      unfold ba encB
      show _ = (dcs d ++ [Value.int .u16 a, .int .u16 b, .int .u32 c]).toArray
      rw [hD]
      match D, hl with
      | [_, _, _, _, _, _, _, _, _, _, _, _, _, _, _, _], _ => rfl
    rw [e]
  · refine Mod.setCell (F := fun k => k = g) (p := ⟨g, 18, none⟩) ?_ (.inl rfl) _
    refine Mod.setCell (F := fun k => k = g) (p := ⟨g, 17, none⟩) ?_ (.inl rfl) _
    refine Mod.setCell (F := fun k => k = g) (p := ⟨g, 16, none⟩) ?_ (.inl rfl) _
    exact Mod.refl _ _
abbrev es19 : Array Value := #[.int .u8 0, .int .u8 0, .int .u8 0, .int .u8 0, .int .u8 0, .int .u8 0, .int .u8 0, .int .u8 0, .int .u8 0, .int .u8 0, .int .u8 0, .int .u8 0, .int .u8 0, .int .u8 0, .int .u8 0, .int .u8 0, .int .u16 65535, .int .u16 65535, .int .u32 4294967295]
theorem empty_ba : ba emptyB = es19 := by
  have h : dcs (List.replicate 16 0) = List.replicate 16 (.int .u8 0) := rfl
  unfold ba encB emptyB
  simp only [h]
  rfl
theorem es_one : es19.all (·.oneCell') = true := by rw [← empty_ba]; exact ba_one _
set_option maxHeartbeats 1000000 in
theorem empty_any (w : World) : Calls Tryz.prog 179 #[] w fun e w' => e = .returned (.agg (ba emptyB)) ∧ Mod (fun _ => False) w w' := by
  rw [empty_ba]
  go_enter Tryz.func179, Tryz.ntmps179
  go_upto_region 1 with (fail)
  obtain ⟨W1, hW1⟩ : ∃ W1, W1 = w.alloc (.cells zs19 259) := ⟨_, rfl⟩
  have hz : W1.heap[w.heap.size]? = some (.cells zs19 259 (0, 0)) := by rw [hW1]; exact heap_alloc_new _ _
  have m1 : Mod (fun _ => False) w W1 := by rw [hW1]; exact (Mod.refl _ w).alloc _
  refine wp_at hW1 ?_
  replace hz := hide hz; replace m1 := hide m1
  clear hW1
  go_wp2_with (refine list_put 259 (.tmp 0) (.tmp 2) rfl rfl w.heap.size es19 rfl rfl zs19 hz.out rfl size259 es_one ?_; intro w3 h3 m3; replace h3 := hide h3; replace m3 := hide m3)
  exact bodyPost_ret (v := .agg es19) (results_one rfl rfl (load_whole h3.out Tryz.underlying259 rfl size259)) rfl ⟨rfl, m1.out.trans m3.out (fun i hi e => by omega)⟩
theorem ba_at {w : World} {g : Nat} {b : Bl} (h : w.heap[g]? = some (.cells (ba b) 259 (0, 0))) : ∀ j u, (encB b)[j]? = some u → w.cell? ((⟨g, 0, none⟩ : Addr).add j) = some u := fun j u hu => by
  rw [Addr.add_mid, Nat.zero_add, cell_of_row w g j _ 259 (0, 0) h, ba]
  simpa using hu
theorem size259' (b : Bl) : (Tryz.prog.info? 259).map (·.size) = some (encB b).length := by rw [encB_len]; exact size259
set_option maxHeartbeats 4000000 in
theorem block_any (A : Option Addr) (n cap : Nat) (p : List Int) (w : World) (hr : Rd w 1 (ic .u8) A n p) (hb : Bytes p) (hnc : n ≤ cap) (hcm : n ≤ 1000000000) :
    Calls Tryz.prog 158 #[.slice A n cap] w fun e w' => e = .returned (.agg (ba (decB p))) ∧ Mod (fun _ => False) w w' := by
  have hL := hr.1
  have m1 : Mod (fun _ => False) w (w.alloc (.cells zs19 259)) := (Mod.refl _ w).alloc _
  have h1 : (w.alloc (.cells zs19 259)).heap[w.heap.size]? = some (.cells zs19 259 (0, 0)) := heap_alloc_new _ _
  by_cases hshort : n < 25
  · have hres : decB p = emptyB := by rw [decB, if_pos (.inl (by omega))]
    have d1 : decide ((n : Int) < 25) = true := by simp; omega
    rw [hres]
    have hem := empty_any (w.alloc (.cells zs19 259))
    replace hr := hide hr; replace hb := hide hb; replace hres := hide hres; replace hL := hide hL; replace m1 := hide m1; replace h1 := hide h1; replace hem := hide hem
    go_enter Tryz.func158, Tryz.ntmps158
    go_wp2_with (first
      | (go_at_call 179; (with_reducible refine hem.out.mono ?_); rintro e w2 ⟨rfl, m2⟩
         have h2 := m2.heap h1.out (by simp)
         replace m2 := hide m2; replace h2 := hide h2)
      | (refine list_put 259 (.tmp 2) (.tmp 19) rfl rfl w.heap.size (ba emptyB) rfl rfl zs19 h2.out rfl (by rw [ba_size]; exact size259) (ba_one _) ?_; intro w3 h3 m3; replace h3 := hide h3; replace m3 := hide m3))
    exact bodyPost_ret (v := .agg (ba emptyB)) (results_one rfl rfl (load_ba h3.out)) rfl ⟨rfl, (m1.out.trans m2.out (by simp)).trans m3.out (fun i hi e => by omega)⟩
  · have hn25 : 25 ≤ n := by omega
    have d1 : decide ((n : Int) < 25) = false := by simp; omega
    obtain ⟨ad, rfl, hc0⟩ := hr.int 0 (by omega)
    have hc0' : w.cell? ad = some (.int .u8 (gi p 0)) := by rwa [show ad.add 0 = ad from by simp [Addr.add]] at hc0
    have hk0 : ad.block < w.heap.size := World.block_lt_of_cell? w _ hc0'
    clear hc0
    by_cases h1v : gi p 0 = 1
    · have hres : decB p = ⟨(p.drop 1).take 16, val ((p.drop 17).take 2), val ((p.drop 19).take 2), val ((p.drop 21).take 4)⟩ := by rw [decB, if_neg (fun h => by
        rcases h with h | h
        · omega
        · exact h h1v)]
      rw [h1v] at hc0'
      have m2 : Mod (fun _ => False) w ((w.alloc (.cells zs19 259)).alloc (.cells zs19 259)) := ((Mod.refl _ w).alloc _).alloc _
      have hA : ((w.alloc (.cells zs19 259)).alloc (.cells zs19 259)).heap[w.heap.size]? = some (.cells zs19 259 (0, 0)) := heap_alloc2_old _ _ _
      have hB : ((w.alloc (.cells zs19 259)).alloc (.cells zs19 259)).heap[w.heap.size + 1]? = some (.cells zs19 259 (0, 0)) := heap_alloc2_new _ _ _
      have hrd := (hr.mod m2 (by simp)).drop 1 (by omega)
      obtain ⟨w3, hcp, h3, m3⟩ := copy16 (w := ((w.alloc (.cells zs19 259)).alloc (.cells zs19 259)).drew) (z := List.replicate 16 0) (tl := [.int .u16 0, .int .u16 0, .int .u32 0]) (g := w.heap.size + 1) (ad := ad.add (1 * 1)) (m := n - 1) (c := cap - 1) hB hrd (by omega) 3
      rw [show ad.add (1 * 1) = ⟨ad.block, ad.off + 1, none⟩ from by simp [Addr.add]] at hcp
      have hA3 := m3.heap (show ((w.alloc (.cells zs19 259)).alloc (.cells zs19 259)).drew.heap[w.heap.size]? = _ from hA) (by omega)
      have M3 := (m2.drew.mono (G := fun k => w.heap.size ≤ k) (by simp)).trans m3 (fun i hi e => by omega)
      have hr3 := hr.mod M3 (fun ad' e hk => by obtain rfl := Option.some.inj e; omega)
      have g1 : Calls Tryz.prog 90 #[.slice (some ad) n cap, .int .i64 17, .int .i64 2] w3 fun e w' => e = .returned (.tuple #[.int .u64 (val ((p.drop 17).take 2)), .int .i64 0]) ∧ w3 = w' := get_any ad n cap 17 2 p w3 hr3 hb (by omega) (by omega) (by omega) hnc hcm
      have g2 : Calls Tryz.prog 90 #[.slice (some ad) n cap, .int .i64 19, .int .i64 2] w3 fun e w' => e = .returned (.tuple #[.int .u64 (val ((p.drop 19).take 2)), .int .i64 0]) ∧ w3 = w' := get_any ad n cap 19 2 p w3 hr3 hb (by omega) (by omega) (by omega) hnc hcm
      have g3 : Calls Tryz.prog 90 #[.slice (some ad) n cap, .int .i64 21, .int .i64 4] w3 fun e w' => e = .returned (.tuple #[.int .u64 (val ((p.drop 21).take 4)), .int .i64 0]) ∧ w3 = w' := get_any ad n cap 21 4 p w3 hr3 hb (by omega) (by omega) (by omega) hnc hcm
      have hv : ∀ a k, k ≤ 4 → a + k ≤ 25 → 0 ≤ val ((p.drop a).take k) ∧ val ((p.drop a).take k) < 256 ^ k := fun a k hk ha => val_bound (p.drop a) (hb.drop a) k (by simp; omega)
      obtain ⟨v1a, v1b⟩ := hv 17 2 (by omega) (by omega)
      obtain ⟨v2a, v2b⟩ := hv 19 2 (by omega) (by omega)
      obtain ⟨v3a, v3b⟩ := hv 21 4 (by omega) (by omega)
      rw [hres]
      generalize val ((p.drop 17).take 2) = vg at *
      generalize val ((p.drop 19).take 2) = va at *
      generalize val ((p.drop 21).take 4) = vr at *
      generalize (p.drop 1).take 16 = d at *
      replace v1b : vg ≤ 65535 := by have : (256 : Int) ^ 2 = 65536 := by decide
                                     omega
      replace v2b : va ≤ 65535 := by have : (256 : Int) ^ 2 = 65536 := by decide
                                     omega
      replace v3b : vr ≤ 4294967295 := by have : (256 : Int) ^ 4 = 4294967296 := by decide
                                          omega
      obtain ⟨h4, m4⟩ := set_tuple h3 vg va vr
      have q16 : w3.cell? ⟨w.heap.size + 1, 16, none⟩ = some (.int .u16 0) := by rw [cell_of_row w3 _ 16 _ 259 (0, 0) h3, List.getElem?_toArray, List.getElem?_append_right (by rw [dcs_len]; omega), dcs_len]; rfl
      have q17 : w3.cell? ⟨w.heap.size + 1, 17, none⟩ = some (.int .u16 0) := by rw [cell_of_row w3 _ 17 _ 259 (0, 0) h3, List.getElem?_toArray, List.getElem?_append_right (by rw [dcs_len]; omega), dcs_len]; rfl
      have q18 : w3.cell? ⟨w.heap.size + 1, 18, none⟩ = some (.int .u32 0) := by rw [cell_of_row w3 _ 18 _ 259 (0, 0) h3, List.getElem?_toArray, List.getElem?_append_right (by rw [dcs_len]; omega), dcs_len]; rfl
      have f16 : w3.frozen? ⟨w.heap.size + 1, 16, none⟩ = false := frozen_of_row _ _ _ _ _ h3
      have f17 : w3.frozen? ⟨w.heap.size + 1, 17, none⟩ = false := frozen_of_row _ _ _ _ _ h3
      have f18 : w3.frozen? ⟨w.heap.size + 1, 18, none⟩ = false := frozen_of_row _ _ _ _ _ h3
      have hA4 := m4.heap hA3 (by omega)
      replace hr := hide hr; replace hb := hide hb; replace hres := hide hres; replace hL := hide hL; replace m1 := hide m1; replace h1 := hide h1; replace h1v := hide h1v; replace m2 := hide m2; replace hA := hide hA; replace hB := hide hB; replace hrd := hide hrd
      replace h3 := hide h3; replace m3 := hide m3; replace hA3 := hide hA3; replace M3 := hide M3; replace hr3 := hide hr3; replace g1 := hide g1; replace g2 := hide g2; replace g3 := hide g3; replace h4 := hide h4; replace m4 := hide m4; replace hA4 := hide hA4
      clear hv
      have hcap1 : ¬ cap = 1 := by omega
      have hcap2 : 1 ≤ cap := by omega
      go_enter Tryz.func158, Tryz.ntmps158
      go_wp2_with fail
      go_region
      go_wp2_with (first
        | (go_at_call 90; (with_reducible refine g1.out.mono ?_); rintro e w4 ⟨rfl, rfl⟩)
        | (go_at_call 90; (with_reducible refine g2.out.mono ?_); rintro e w4 ⟨rfl, rfl⟩)
        | (go_at_call 90; (with_reducible refine g3.out.mono ?_); rintro e w4 ⟨rfl, rfl⟩)
        | (refine list_load 259 (.tmp 3) rfl rfl _ Tryz.underlying259 rfl ⟨w.heap.size + 1, 0, none⟩ (encB ⟨d, vg, va, vr⟩) (size259' _) rfl (ba_at h4.out) ?_)
        | (refine list_put 259 (.tmp 2) (.tmp 48) rfl rfl w.heap.size (ba ⟨d, vg, va, vr⟩) rfl rfl zs19 hA4.out (by rw [ba_size]; rfl) (by rw [ba_size]; exact size259) (ba_one _) ?_; intro w5 h5 m5; replace h5 := hide h5; replace m5 := hide m5))
      exact bodyPost_ret (v := .agg (ba ⟨d, vg, va, vr⟩)) (results_one rfl rfl (load_ba h5.out)) rfl ⟨rfl, ((((M3.out.trans m4.out (fun i hi e => by omega)).trans m5.out (fun i hi e => by omega))).mono (G := fun _ => False) (fun i hi e => by omega))⟩
    · have hres : decB p = emptyB := by rw [decB, if_pos (.inr h1v)]
      have e1 : (gi p 0 != 1) = true := by simpa using h1v
      rw [hres]
      have hem := empty_any (w.alloc (.cells zs19 259))
      replace hr := hide hr; replace hb := hide hb; replace hres := hide hres; replace hL := hide hL; replace m1 := hide m1; replace h1 := hide h1; replace hem := hide hem; replace h1v := hide h1v
      go_enter Tryz.func158, Tryz.ntmps158
      go_wp2_with (first
        | (go_at_call 179; (with_reducible refine hem.out.mono ?_); rintro e w2 ⟨rfl, m2⟩
           have h2 := m2.heap h1.out (by simp)
           replace m2 := hide m2; replace h2 := hide h2)
        | (refine list_put 259 (.tmp 2) (.tmp 19) rfl rfl w.heap.size (ba emptyB) rfl rfl zs19 h2.out rfl (by rw [ba_size]; exact size259) (ba_one _) ?_; intro w3 h3 m3; replace h3 := hide h3; replace m3 := hide m3))
      exact bodyPost_ret (v := .agg (ba emptyB)) (results_one rfl rfl (load_ba h3.out)) rfl ⟨rfl, (m1.out.trans m2.out (by simp)).trans m3.out (fun i hi e => by omega)⟩
end Go.Proofs.YtjkpelbhhapebaaGreatDoor
