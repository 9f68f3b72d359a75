/-
  pi.Pack, walked: the bytes of blocks, with or without their tuples. Condition: the blocks are well.
-/
import Derived.Test.YtjkpelbhhapebaaGreatDoorSWrite
namespace Go.Proofs.YtjkpelbhhapebaaGreatDoor
open Go.RowKit
set_option maxRecDepth 100000
section
variable {w : World} {ops : Array Oper} {rest : List Oper} {o : Oper} {a : Act} {Q : Exit → Act → World → Prop}
theorem run_new (w : World) : (Instr.alloc 259 true (.tuple #[])).run Tryz.prog w = .ok (.pointer (some ⟨w.heap.size, 0, none⟩)) (w.alloc (.cells zs19 259)) := by kernel_rfl
/-- A block's variable is made. -/
theorem list_new (ho : o.op = .alloc 259) (hg : o.guard = none)
    (h : ∀ w' g, g = w.heap.size → w'.heap[g]? = some (.cells zs19 259 (0, 0)) → Mod (fun _ => False) w w' → w'.heap.size = g + 1 → wpList Tryz.prog ops Q rest (a.put o.dst (.pointer (some ⟨g, 0, none⟩))) w') : wpList Tryz.prog ops Q (o :: rest) a w := by
  refine wpList_plain hg fun _ hK => ?_
  have hb := run_new w
  unfold Oper.wp execOp
  simp only [ho]
  simp only [Sem.run_bind, hb, Result.andThen_ok]
  exact hK _ _ (h _ _ rfl (heap_alloc_new _ _) ((Mod.refl _ w).alloc _) (by simp))
end
theorem rd_ba {w : World} {g : Nat} {b : Bl} (h : w.heap[g]? = some (.cells (ba b) 259 (0, 0))) (hb : b.d.length = 16) : Rd w 1 (ic .u8) (some ⟨g, 0, none⟩) 16 b.d :=
  ⟨hb, fun i hi => ⟨_, rfl, fun j u hu => by
    have hj : j = 0 := by
      cases j with
      | zero => rfl
      | succ j => simp [ic] at hu
    subst hj
    have := ba_at h i (.int .u8 (gi b.d i)) (by
      rw [encB, List.getElem?_append_left (by rw [dcs_len]; omega)]
      simp [dcs, hi])
    simp only [ic, List.getElem?_cons_zero, Option.some.injEq] at hu
    subst hu
    simpa using this⟩⟩
theorem ba_tup {w : World} {g : Nat} {b : Bl} (h : w.heap[g]? = some (.cells (ba b) 259 (0, 0))) : w.cell? ⟨g, 16, none⟩ = some (.int .u16 b.g) ∧ w.cell? ⟨g, 17, none⟩ = some (.int .u16 b.a) ∧ w.cell? ⟨g, 18, none⟩ = some (.int .u32 b.r) := by
  refine ⟨?_, ?_, ?_⟩ <;>
    (rw [cell_of_row w g _ _ 259 (0, 0) h, ba, encB, List.getElem?_toArray, List.getElem?_append_right (by rw [dcs_len]; omega), dcs_len]; rfl)
/-- The bytes of a block. -/
def packB (with_ : Bool) (b : Bl) : List Int := b.d ++ if with_ then [b.g / 256, b.g % 256, b.a / 256, b.a % 256, b.r / 16777216, b.r / 65536 % 256, b.r / 256 % 256, b.r % 256] else []
def packL (with_ : Bool) (l : List Bl) : List Int := l.flatMap (packB with_)
theorem packL_snoc (with_ : Bool) (l : List Bl) (k : Nat) (h : k < l.length) : packL with_ (l.take (k + 1)) = packL with_ (l.take k) ++ packB with_ (gi l k) := by
  rw [packL, List.take_add_one, List.getElem?_eq_getElem h, ← gi_eq l k h]
  simp [packL]
theorem packL_len (with_ : Bool) (l : List Bl) (hb : ∀ b ∈ l, b.d.length = 16) : (packL with_ l).length ≤ 24 * l.length := by
  induction l with
  | nil => simp [packL]
  | cons b l ih =>
    have h1 := ih fun b hb' => hb b (List.mem_cons_of_mem _ hb')
    have h2 := hb b List.mem_cons_self
    simp only [packL, List.flatMap_cons, List.length_append, List.length_cons] at h1 ⊢
    have : (packB with_ b).length ≤ 24 := by
      rw [packB, List.length_append, h2]
      cases with_ <;> simp
    omega
set_option maxHeartbeats 4000000 in
theorem pack_any (with_ : Bool) (A : Option Addr) (n c : Nat) (l : List Bl) (w : World) (hr : Rd w 19 encB A n l) (hn : n ≤ 4096) (hb : ∀ b ∈ l, OkBl b) :
    Calls Tryz.prog 102 #[.slice A n c, .bool with_] w fun e w' => ∃ v, e = .returned v ∧ Row w' 5 1 (ic .u8) v (packL with_ l) ∧ Mod (fun _ => False) w w' ∧ ∀ k, v.ownBlock = some k → w.heap.size ≤ k := by
  have hl : l.length = n := hr.1
  have hP : Hid (Row w 5 1 (ic .u8) (.slice none 0 0) (packL with_ (l.take 0)) ∧ Mod (fun _ => False) w w ∧ ∀ j, (Value.slice none 0 0).ownBlock = some j → w.heap.size ≤ j) := hide ⟨Row.nil _ _ _ _, Mod.refl _ _, by simp [Value.ownBlock]⟩
  have hgi : Hid (∀ k, k < n → OkBl (gi l k)) := hide fun k hk => by
    rw [gi_eq l k (by omega)]
    exact hb _ (List.getElem_mem _)
  have hpl : Hid (∀ k, (packL with_ (l.take k)).length ≤ 24 * n) := hide fun k => by
    have := packL_len with_ (l.take k) fun b hb' => (hb b (List.mem_of_mem_take hb')).1
    rw [List.length_take] at this
    omega
  have hsn : Hid (∀ k, k < n → packL with_ (l.take (k + 1)) = packL with_ (l.take k) ++ packB with_ (gi l k)) := hide fun k hk => packL_snoc with_ l k (by omega)
  replace hr := hide hr; replace hb := hide hb; replace hl := hide hl
  cases with_
  case false =>
    go_enter Tryz.func102, Tryz.ntmps102
    go_wp2_with fail
    go_loopw [5, 11] (fun u v wr => ∃ k : Nat, k ≤ n ∧ v = .int .i64 k ∧ (∃ A m c, u = .slice A m c) ∧ Hid (Row wr 5 1 (ic .u8) u (packL false (l.take k)) ∧ Mod (fun _ => False) w wr ∧ ∀ j, u.ownBlock = some j → w.heap.size ≤ j)) (fun _ v _ => n - (intOf v).toNat)
    case atStart => exact ⟨0, by omega, rfl, ⟨_, _, _, rfl⟩, hP⟩
    case round =>
      obtain ⟨k, hk, rfl, ⟨A1, m1, c1, rfl⟩, hR⟩ := hrel
      clear hP
      by_cases hlk : k < n
      · obtain ⟨ad, rfl, hc⟩ := (hr.out.mod hR.out.2.1 (fun _ _ h => h)).elemB k hlk
        obtain ⟨b, hbk⟩ : ∃ b, b = gi l k := ⟨_, rfl⟩
        have hok := hgi.out k hlk
        have hs := hsn.out k hlk
        rw [← hbk] at hc hok hs
        replace hc := hide hc; replace hok := hide hok; replace hs := hide hs; replace hbk := hide hbk
        go_wp2_with (first
          | (refine list_load 259 (.tmp 13) rfl rfl _ Tryz.underlying259 rfl (ad.add (k * 19)) (encB b) (size259' _) rfl hc.out ?_)
          | (refine list_new rfl rfl ?_
             intro w2 g hg h2 m2 hz
             replace m2 := hide m2; replace h2 := hide h2; replace hg := hide hg; replace hz := hide hz)
          | (refine list_put 259 (.tmp 7) (.tmp 14) rfl rfl g (ba b) rfl rfl zs19 h2.out (by rw [ba_size]; rfl) (by rw [ba_size]; exact size259) (ba_one _) ?_
             intro w3 h3 m3
             have m13 : Mod (fun _ => False) wr w3 := m2.out.trans m3 (fun i hi e => by rw [e, hg.out] at hi; omega)
             have hrd := rd_ba h3 hok.out.1
             have r3 := hR.out.1.mod m13 (fun _ _ h => h)
             replace h3 := hide h3; replace m3 := hide m3; replace m13 := hide m13; replace hrd := hide hrd; replace r3 := hide r3)
          | (at_builtin; refine list_app (.tmp 15) (.tmp 17) 22 5 _ 1 1 (ic .u8) rfl rfl (ic_len _) (ic_one _) Tryz.underlying22 elemU8 (.slice A1 m1 c1) (packL false (l.take k)) (some ⟨g, 0, none⟩) 16 16 b.d rfl rfl r3.out hrd.out ?_ ?_ ?_
             (have := hpl.out k; simp [maxLen]; omega)
             (have := hpl.out k; omega)
             intro v4 w4 r4 g4 a4
             obtain ⟨A4, n4, c4, rfl⟩ := r4.form
             replace r4 := hide r4; replace g4 := hide g4; replace a4 := hide a4))
        go_roundw
        case rel =>
          have M4 : Mod (fun _ => False) w w4 := (hR.out.2.1.trans m13.out (fun _ _ h => h)).grown g4.out (fun j hj => .inr (hR.out.2.2 j hj))
          refine ⟨k + 1, by omega, by go_num, ⟨_, _, _, rfl⟩, hide ⟨by have := r4.out; rw [hs.out]; simpa [packB] using this, M4, fun j hj => ?_⟩⟩
          rcases a4.out with e | e <;> rw [e] at hj
          · exact hR.out.2.2 j hj
          · have h1 := (hR.out.2.1.trans m13.out (fun _ _ h => h)).size
            simp at hj
            omega
        case measure => simp [intOf]; omega
      · obtain rfl : k = n := by omega
        have hE : Hid (Row wr 5 1 (ic .u8) (.slice A1 m1 c1) (packL false l)) := hide (by have := hR.out.1; rwa [List.take_of_length_le (by rw [hl.out]; exact Nat.le_refl _)] at this)
        go_wp2_with fail
        go_ret
        exact ⟨_, rfl, hE.out, hR.out.2⟩
  case true =>
    go_enter Tryz.func102, Tryz.ntmps102
    go_wp2_with fail
    go_loopw [5, 11] (fun u v wr => ∃ k : Nat, k ≤ n ∧ v = .int .i64 k ∧ (∃ A m c, u = .slice A m c) ∧ Hid (Row wr 5 1 (ic .u8) u (packL true (l.take k)) ∧ Mod (fun _ => False) w wr ∧ ∀ j, u.ownBlock = some j → w.heap.size ≤ j)) (fun _ v _ => n - (intOf v).toNat)
    case atStart => exact ⟨0, by omega, rfl, ⟨_, _, _, rfl⟩, hP⟩
    case round =>
      obtain ⟨k, hk, rfl, ⟨A1, m1, c1, rfl⟩, hR⟩ := hrel
      clear hP
      by_cases hlk : k < n
      · obtain ⟨ad, rfl, hc⟩ := (hr.out.mod hR.out.2.1 (fun _ _ h => h)).elemB k hlk
        obtain ⟨b, hbk⟩ : ∃ b, b = gi l k := ⟨_, rfl⟩
        have hok := hgi.out k hlk
        have hs := hsn.out k hlk
        rw [← hbk] at hc hok hs
        obtain ⟨-, -, ⟨g0, g1⟩, ⟨a0, a1⟩, ⟨r0, r1⟩⟩ := id hok
        have eg := u8wrap b.g
        have ea := u8wrap b.a
        have er := u8wrap b.r
        have er1 := u8wrap (b.r / 256)
        have er2 := u8wrap (b.r / 65536)
        replace hc := hide hc; replace hok := hide hok; replace hs := hide hs; replace hbk := hide hbk
        go_wp2_with (first
          | (refine list_load 259 (.tmp 13) rfl rfl _ Tryz.underlying259 rfl (ad.add (k * 19)) (encB b) (size259' _) rfl hc.out ?_)
          | (refine list_new rfl rfl ?_
             intro w2 g hg h2 m2 hz
             replace m2 := hide m2; replace h2 := hide h2; replace hg := hide hg; replace hz := hide hz)
          | (refine list_put 259 (.tmp 7) (.tmp 14) rfl rfl g (ba b) rfl rfl zs19 h2.out (by rw [ba_size]; rfl) (by rw [ba_size]; exact size259) (ba_one _) ?_
             intro w3 h3 m3
             have m13 : Mod (fun _ => False) wr w3 := m2.out.trans m3 (fun i hi e => by rw [e, hg.out] at hi; omega)
             have hrd := rd_ba h3 hok.out.1
             have r3 := hR.out.1.mod m13 (fun _ _ h => h)
             replace h3 := hide h3; replace m3 := hide m3; replace m13 := hide m13; replace hrd := hide hrd; replace r3 := hide r3)
          | (at_builtin; refine list_app (.tmp 15) (.tmp 17) 22 5 _ 1 1 (ic .u8) rfl rfl (ic_len _) (ic_one _) Tryz.underlying22 elemU8 (.slice A1 m1 c1) (packL true (l.take k)) (some ⟨g, 0, none⟩) 16 16 b.d rfl rfl r3.out hrd.out ?_ ?_ ?_
             (have := hpl.out k; simp [maxLen]; omega)
             (have := hpl.out k; omega)
             intro v4 w4 r4 g4 a4
             obtain ⟨A4, n4, c4, rfl⟩ := r4.form
             have M4 : Mod (fun _ => False) w w4 := (hR.out.2.1.trans m13.out (fun _ _ h => h)).grown g4 (fun j hj => .inr (hR.out.2.2 j hj))
             have h4 := (grown_mod g4).heap h3.out (fun e => by have := (hR.out.1.lt) g e; rw [hg.out] at this; omega)
             obtain ⟨q16, q17, q18⟩ := ba_tup h4
             have q0 := (Array.getElem?_eq_some_iff.1 h4).1
             have o4 : ∀ j, (Value.slice A4 n4 c4).ownBlock = some j → w.heap.size ≤ j := fun j hj => by
               rcases a4 with e | e <;> rw [e] at hj
               · exact hR.out.2.2 j hj
               · have h1 := (hR.out.2.1.trans m13.out (fun _ _ h => h)).size
                 simp at hj
                 omega
             have l4 := r4.1
             have L4 : (packL true (l.take k) ++ b.d).length ≤ 24 * n + 16 := by have := hpl.out k; rw [List.length_append, hok.out.1]; omega
             replace r4 := hide r4; replace g4 := hide g4; replace a4 := hide a4; replace M4 := hide M4; replace h4 := hide h4; replace o4 := hide o4; replace l4 := hide l4; replace L4 := hide L4)
          | (at_builtin; refine list_app (.tmp 22) (.tmp 52) 22 5 _ 1 1 (ic .u8) rfl rfl (ic_len _) (ic_one _) Tryz.underlying22 elemU8 (.slice A4 n4 c4) (packL true (l.take k) ++ b.d) (some ⟨w4.heap.size + 1, 0, none⟩) 8 8 [b.g / 256, b.g % 256, b.a / 256, b.a % 256, b.r / 16777216, b.r / 65536 % 256, b.r / 256 % 256, b.r % 256] ?_ ?_ ((r4.out.alloc _).alloc _) (rd_block (l := [b.g / 256, b.g % 256, b.a / 256, b.a % 256, b.r / 16777216, b.r / 65536 % 256, b.r / 256 % 256, b.r % 256]) (heap_alloc2_new _ _ _) rfl) ?_ ?_ ?_
             (rfl)
             (rfl)
             (have := L4.out; simp [maxLen] at this ⊢; omega)
             (have := L4.out; simp at this ⊢; omega)
             intro v5 w5 r5 g5 a5
             obtain ⟨A5, n5, c5, rfl⟩ := r5.form
             replace r5 := hide r5; replace g5 := hide g5; replace a5 := hide a5))
        go_roundw
        case rel =>
          have M5 : Mod (fun _ => False) w w5 := ((M4.out.alloc _).alloc _).grown g5.out (fun j hj => .inr (o4.out j hj))
          refine ⟨k + 1, by omega, by go_num, ⟨_, _, _, rfl⟩, hide ⟨by have := r5.out; rw [hs.out]; simpa [packB] using this, M5, fun j hj => ?_⟩⟩
          rcases a5.out with e | e <;> rw [e] at hj
          · exact o4.out j hj
          · have h1 := M4.out.size
            simp at hj
            omega
        case measure => simp [intOf]; omega
      · obtain rfl : k = n := by omega
        have hE : Hid (Row wr 5 1 (ic .u8) (.slice A1 m1 c1) (packL true l)) := hide (by have := hR.out.1; rwa [List.take_of_length_le (by rw [hl.out]; exact Nat.le_refl _)] at this)
        go_wp2_with fail
        go_ret
        exact ⟨_, rfl, hE.out, hR.out.2⟩
end Go.Proofs.YtjkpelbhhapebaaGreatDoor
