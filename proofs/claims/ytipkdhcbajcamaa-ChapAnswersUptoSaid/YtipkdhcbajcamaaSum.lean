/-
  chap.Sum, walked. Conditions: bytes that take less than 2^47.
-/
import Derived.Test.YtipkdhcbajcamaaTurn
import Derived.Test.YtipkdhcbajcamaaSumw
import Derived.Laws.Tables
namespace Go.Proofs.Ytipkdhcbajcamaa
open Go.RowKit
theorem elem5 : Elem Try.prog 5 (.int .u8 0) 1 1 := ⟨by kernel_rfl, rfl, by decide⟩

def z16 : Obj := .cells #[.int .u8 0, .int .u8 0, .int .u8 0, .int .u8 0, .int .u8 0, .int .u8 0, .int .u8 0, .int .u8 0, .int .u8 0, .int .u8 0, .int .u8 0, .int .u8 0, .int .u8 0, .int .u8 0, .int .u8 0, .int .u8 0] 24
/-- The bytes so far, in a row of the call's own; beside it the answer's block. -/
def Sw (w wr : World) (v : Value) (q : List Int) : Prop :=
  Mod (fun _ => False) w wr ∧ wr.heap[w.heap.size]? = some z16 ∧ Row wr 5 1 (ic .u8) v q ∧ ∀ k, v.ownBlock = some k → w.heap.size < k
theorem Sw.app {w wr w2 : World} {v v2 : Value} {q q2 : List Int} {o : Obj} (h : Sw w wr v q) (r2 : Row w2 5 1 (ic .u8) v2 q2) (g2 : (wr.alloc o).grownBy w2 v.ownBlock) (a2 : v2.ownBlock = v.ownBlock ∨ v2.ownBlock = some (wr.alloc o).heap.size) : Sw w w2 v2 q2 := by
  obtain ⟨h1, h2, h3, h4⟩ := h
  have hlt := (Array.getElem?_eq_some_iff.1 h2).1
  have hs := h1.size
  have m2 : Mod (fun k => v.ownBlock = some k) wr w2 := ((Mod.refl _ wr).alloc o).grown g2 (fun k hk => .inl hk)
  refine ⟨h1.trans m2 (fun i hi hg => by have := h4 i hg; omega), m2.heap h2 (fun e => by have := h4 _ e; omega), r2, fun k hk => ?_⟩
  rcases a2 with e | e
  · exact h4 k (e ▸ hk)
  · rw [e] at hk
    simp at hk
    omega
/-- The four words beside it. -/
def Hw (w wr : World) (hb : Nat) (s : Q) : Prop := wr.heap[hb]? = some (.cells #[.int .u32 s.a, .int .u32 s.b, .int .u32 s.c, .int .u32 s.d] 39 (0, 0)) ∧ w.heap.size < hb

/-- The bytes of the answer, laid one by one in block ob; the four words in block hb. -/
def Ow (w wr : World) (hb ob : Nat) (s : Q) (k : Nat) : Prop :=
  Mod (fun _ => False) w wr ∧ wr.heap[w.heap.size]? = some z16 ∧ Hw w wr hb s ∧ ∃ ms : Array Value, wr.heap[ob]? = some (.cells ms 24 (0, 0)) ∧ ms.size = 16 ∧ (∀ i, i < k → ms[i]? = some (.int .u8 (s.at_ (i / 4) / 2 ^ (8 * (i % 4)) % 256))) ∧ hb < ob
theorem Ow.word {w wr : World} {hb ob : Nat} {s : Q} {k : Nat} (h : Ow w wr hb ob s k) (j : Nat) (hj : j < 4) : wr.cell? ⟨hb, j, none⟩ = some (.int .u32 (s.at_ j)) := by
  rw [cell_of_row wr _ j _ 39 (0, 0) h.2.2.1.1]
  obtain rfl | rfl | rfl | rfl : j = 0 ∨ j = 1 ∨ j = 2 ∨ j = 3 := by omega
  all_goals rfl
theorem Ow.byte {w wr : World} {hb ob : Nat} {s : Q} {k : Nat} (h : Ow w wr hb ob s k) (j : Nat) (hj : j < 16) : ∃ u, wr.cell? ⟨ob, j, none⟩ = some u := by
  obtain ⟨_, _, _, ms, h4, h5, _⟩ := h
  rw [cell_of_row wr _ j _ 24 (0, 0) h4]
  exact ⟨_, Array.getElem?_eq_getElem (by omega)⟩
theorem Ow.free {w wr : World} {hb ob : Nat} {s : Q} {k : Nat} (h : Ow w wr hb ob s k) (j : Nat) : wr.frozen? ⟨ob, j, none⟩ = false := by
  obtain ⟨_, _, _, ms, h4, h5, _⟩ := h
  exact frozen_of_row wr _ j _ 24 h4
theorem Ow.put {w wr : World} {hb ob : Nat} {s : Q} {k : Nat} (h : Ow w wr hb ob s k) (hk : k < 16) :
    Ow w (wr.setCell ⟨ob, k, none⟩ (.int .u8 (s.at_ (k / 4) / 2 ^ (8 * (k % 4)) % 256))) hb ob s (k + 1) := by
  obtain ⟨h1, h2, h3, ms, h4, h5, h6, h7⟩ := h
  have hs := h1.size
  have hlt := h3.2
  refine ⟨h1.setCell (.inr (by show w.heap.size ≤ ob; omega)) _, ?_, ⟨?_, h3.2⟩, ms.setIfInBounds k (.int .u8 (s.at_ (k / 4) / 2 ^ (8 * (k % 4)) % 256)), ?_, by simpa using h5, fun i hi => ?_, h7⟩
  · rw [heap_setCell_other _ _ _ _ (by show w.heap.size ≠ ob; omega)]; exact h2
  · rw [heap_setCell_other _ _ _ _ (by show hb ≠ ob; omega)]; exact h3.1
  · simp [World.setCell, Array.getElem?_modify, h4]
  · rw [Array.getElem?_setIfInBounds]
    split
    · rename_i e
      subst e
      rw [if_pos (by omega)]
    · exact h6 i (by omega)
theorem stB_at (q : List Int) (j i : Nat) : U ((stB q j).at_ i) := by
  obtain ⟨h1, h2, h3, h4⟩ := stB_u q j
  unfold Q.at_
  split
  · exact h1
  · split
    · exact h2
    · split
      · exact h3
      · exact h4
theorem mod_setRow {F : Nat → Prop} {a w : World} (h : Mod F a w) {g : Nat} (hg : F g ∨ a.heap.size ≤ g) (cs : Array Value) : Mod F a (w.setRow g cs) :=
  ⟨h.os, h.tape, h.output, by simpa using h.size, fun i hi hn => (setRow_other w g i cs (by
    rintro rfl
    rcases hg with hg | hg
    · exact hn hg
    · omega)).trans (h.block i hi hn)⟩
/-- A slice's length. -/
def slen : Value → Nat
  | .slice _ n _ => n
  | _ => 0
/-- 'q[64:]'. -/
theorem cut64 {w : World} {g o r c : Nat} {q : List Int} (h : Rd w 1 (ic .u8) (some ⟨g, o, none⟩) r q) (hr : 64 ≤ r) (hc : r ≤ c) :
    ∃ A, (∀ wx, (Instr.slice 22 (.slice (some ⟨g, o, none⟩) r c) (some (.int .i64 64)) none none).run Try.prog wx = .ok (.slice A (r - 64) (c - 64)) wx) ∧ Rd w 1 (ic .u8) A (r - 64) (q.drop 64) ∧ ∃ o', A = some ⟨g, o', none⟩ := by
  have hcut := h.cut 64 hr hc
  refine ⟨_, fun wx => ?_, hcut, ?_⟩
  · rw [run_slice_l wx 22 _ r c (by kernel_rfl) .i64 64 (by omega) (by omega)]
    have hs : (sizeOf (Try.prog.elem 22)).run Try.prog wx = .ok 1 wx := by kernel_rfl
    simp [hs, sliced]
  · split
    · exact ⟨_, rfl⟩
    · exact ⟨o + 64, by simp [Addr.add]⟩

set_option maxHeartbeats 4000000 in
set_option maxRecDepth 100000 in
theorem sum_any (A : Option Addr) (len cap : Nat) (l : List Int) (w : World) (hr : Rd w 1 (ic .u8) A len l) (hlen : len ≤ 140737488351232) (hby : Hid (∀ x ∈ l, 0 ≤ x ∧ x ≤ 255)) :
    Calls Try.prog 8 #[.slice A len cap] w fun e w' => e = .returned (.agg ((md l).map (Value.int .u8)).toArray) ∧ Mod (fun _ => False) w w' := by
  have HL : Hid (l.length = len) := hr.1
  have hS0 : Hid (Sw w (w.alloc z16) (.slice none 0 0) []) := hide ⟨(Mod.refl _ w).alloc _, heap_alloc_new _ _, Row.nil _ _ _ _, by simp [Value.ownBlock]⟩
  have hr1 := hide (hr.alloc (.cells #[.int .u8 0, .int .u8 0, .int .u8 0, .int .u8 0, .int .u8 0, .int .u8 0, .int .u8 0, .int .u8 0, .int .u8 0, .int .u8 0, .int .u8 0, .int .u8 0, .int .u8 0, .int .u8 0, .int .u8 0, .int .u8 0] 24))
  clear hr
  go_enter Try.func8, Try.ntmps8
  go_wp2_with (first
    | (at_builtin; refine list_app (.const (.slice none 0 0)) (.tmp 9) 22 5 _ 1 1 (ic .u8) rfl rfl (ic_len _) (ic_one _) Try.underlying22 elem5 (.slice none 0 0) [] A len cap l rfl rfl (Row.nil _ _ _ _) hr1.out ?_ ?_ ?_
       (have := HL.out; simp [maxLen]; omega)
       (simp; omega)
       intro v1 w1 r1 g1 a1
       obtain ⟨A1, c1, hv1, -, -⟩ := r1.slice
       rw [List.nil_append, HL.out] at hv1
       rw [List.nil_append] at r1
       have hS1 : Hid (Sw w w1 v1 l) := hide ⟨hS0.out.1.grown g1 (by simp [Value.ownBlock]), (grown_mod g1).heap hS0.out.2.1 (by simp [Value.ownBlock]), r1, fun k hk => (by
         rcases a1 with e | e
         · rw [e] at hk; simp [Value.ownBlock] at hk
         · rw [e] at hk; simp at hk; omega)⟩
       subst hv1)
    | (at_builtin; refine list_app (.tmp 10) (.tmp 11) 22 5 _ 1 1 (ic .u8) rfl rfl (ic_len _) (ic_one _) Try.underlying22 elem5 (.slice A1 len c1) l (some ⟨w1.heap.size, 0, none⟩) 1 1 [128] rfl rfl (r1.alloc _) (Rd.box w1 (ic .u8) 128 5) ?_ ?_ ?_
       (have := HL.out; simp [maxLen]; omega)
       (have := HL.out; simp; omega)
       intro v2 w2 r2 g2 a2
       obtain ⟨A2, c2, hv2, -, -⟩ := r2.slice
       rw [padz_zero, padz_len _ _ (Nat.le_refl _), HL.out] at hv2
       rw [padz_zero, HL.out] at r2
       have hS2 : Hid (Sw w w2 v2 (padz l (len + 1))) := hide (hS1.out.app r2 g2 a2)
       subst hv2))
  clear r1 g1 a1 r2 g2 a2 hS1 hS0
  have hz : zz len ≤ 63 := by unfold zz; omega
  have hzm : (len + 1 + zz len) % 64 = 56 := by unfold zz; omega
  have hzn : Hid (∀ m, len + 1 ≤ m → m < len + 1 + zz len → m % 64 ≠ 56) := hide (fun m h1 h2 => by unfold zz at h2; omega)
  obtain ⟨z, hzr⟩ : ∃ z, z = zz len := ⟨_, rfl⟩
  rw [← hzr] at hz hzm hzn
  replace hzr := hide hzr
  go_loopw [3] (fun v wr => ∃ (m : Nat) (A : Option Addr) (c : Nat), len + 1 ≤ m ∧ m ≤ len + 1 + z ∧ v = .slice A m c ∧ Hid (Sw w wr v (padz l m))) (fun v _ => len + 1 + z - slen v)
  case atStart => exact ⟨len + 1, A2, c2, by omega, by omega, rfl, hS2⟩
  case round =>
    clear hS2
    obtain ⟨m, A3, c3, hm1, hm2, rfl, hS⟩ := hrel
    by_cases hlt : m < len + 1 + z
    · have hb : ((m : Int) % 64 == 56) = false := by have := hzn.out m hm1 hlt; simp; omega
      go_wp2_with (first
        | (at_builtin; refine list_app (.tmp 17) (.tmp 18) 22 5 _ 1 1 (ic .u8) rfl rfl (ic_len _) (ic_one _) Try.underlying22 elem5 (.slice A3 m c3) (padz l m) (some ⟨wr.heap.size, 0, none⟩) 1 1 [0] rfl rfl (hS.out.2.2.1.alloc _) (Rd.box wr (ic .u8) 0 5) ?_ ?_ ?_
           (have := HL.out; rw [padz_len _ _ (by omega)]; simp [maxLen]; omega)
           (have := HL.out; rw [padz_len _ _ (by omega)]; omega)
           intro v4 w4 r4 g4 a4
           obtain ⟨A4, c4, hv4, -, -⟩ := r4.slice
           rw [padz_snoc _ _ (by rw [HL.out]; omega), padz_len _ _ (by rw [HL.out]; omega)] at hv4
           rw [padz_snoc _ _ (by rw [HL.out]; omega)] at r4
           have hS4 : Hid (Sw w w4 v4 (padz l (m + 1))) := hide (hS.out.app r4 g4 a4)
           subst hv4))
      go_roundw
      case rel => exact ⟨m + 1, A4, c4, by omega, by omega, rfl, hS4⟩
      case measure => show len + 1 + z - (m + 1) < len + 1 + z - m; omega
    · obtain rfl : m = len + 1 + z := by omega
      have hb : (((len : Int) + 1 + (z : Int)) % 64 == 56) = true := by simp; omega
      have hb2 : (((len : Int) + 1 + (z : Int)) % 64 != 56) = false := by simp; omega
      have hN : Hid ((padz l (len + 1 + z)).length = len + 1 + z) := hide (padz_len _ _ (by rw [HL.out]; omega))
      have hS1 : Hid (Sw w wr (.slice A3 (len + 1 + z) c3) (padz l (len + 1 + z) ++ lenB ((len : Int) * 8) 0)) := hide (by simpa [lenB] using hS.out)
      go_wp2
      go_loopw [3, 5, 24] (fun v x i wr => ∃ (k m : Nat) (A : Option Addr) (c : Nat), k ≤ 8 ∧ i = .int .i64 k ∧ Hid (m = len + 1 + z + k) ∧ v = .slice A m c ∧ Hid (Sw w wr v (padz l (len + 1 + z) ++ lenB ((len : Int) * 8) k))) (fun _ _ i _ => 8 - (intOf i).toNat)
      case atStart => exact ⟨0, len + 1 + z, A3, c3, by omega, rfl, hide rfl, rfl, hS1⟩
      case round =>
        clear hS1 hS hb hb2
        obtain ⟨k, m, A4, c4, hk, rfl, hmk, rfl, hS⟩ := hrel
        by_cases hlt : k < 8
        · have hn8 : (8 * (k : Int)).toNat = 8 * k := by omega
          have hmm : m ≤ 140737488351500 := by have := hmk.out; omega
          go_wp2_with (first
            | (at_builtin; refine list_app (.tmp 27) (.tmp 33) 22 5 _ 1 1 (ic .u8) rfl rfl (ic_len _) (ic_one _) Try.underlying22 elem5 (.slice A4 m c4) (padz l (len + 1 + z) ++ lenB ((len : Int) * 8) k) (some ⟨wr.heap.size, 0, none⟩) 1 1 [(len : Int) * 8 / 2 ^ (8 * k) % 256] rfl rfl (hS.out.2.2.1.alloc _) (Rd.box wr (ic .u8) _ 5) ?_ ?_ ?_
               (rw [List.length_append, hN.out, lenB_len]; simp [maxLen]; omega)
               (rw [List.length_append, hN.out, lenB_len]; omega)
               intro v5 w5 r5 g5 a5
               obtain ⟨A5, c5, hv5, -, -⟩ := r5.slice
               rw [List.append_assoc, lenB_snoc] at r5 hv5
               have hS5 : Hid (Sw w w5 v5 (padz l (len + 1 + z) ++ lenB ((len : Int) * 8) (k + 1))) := hide (hS.out.app r5 g5 a5)
               obtain ⟨m5, hm5⟩ : ∃ m5, m5 = (padz l (len + 1 + z) ++ lenB ((len : Int) * 8) (k + 1)).length := ⟨_, rfl⟩
               rw [← hm5] at hv5
               have hm5' : Hid (m5 = len + 1 + z + (k + 1)) := hide (by rw [hm5, List.length_append, hN.out, lenB_len])
               clear hm5
               subst hv5))
          go_roundw
          case rel =>
            exact ⟨k + 1, m5, A5, c5, by omega, by go_num, hm5', rfl, hS5⟩
          case measure => simp [intOf]; omega
        · have hk8 : k = 8 := by omega
          rw [hk8] at hS hmk
          replace hk8 := hide hk8
          obtain ⟨wo, hwo⟩ : ∃ wo : World, wo = wr := ⟨_, rfl⟩
          subst hwo
          have hfull : Hid (padz l (len + 1 + z) ++ lenB ((len : Int) * 8) 8 = full l) := hide (by unfold full; rw [HL.out, hzr.out])
          obtain ⟨nb, hnb⟩ : ∃ nb, nb = (full l).length / 64 := ⟨_, rfl⟩
          have hnb2 : m = 64 * nb := by rw [hmk.out, hnb, ← full_mod, full_len, HL.out, hzr.out]; omega
          have hmm : m ≤ 140737488351500 := by have := hmk.out; omega
          have hS6 := hS
          rw [hfull.out] at hS6
          clear hS hzn hzm hmk
          subst hnb2
          replace hnb := hide hnb
          obtain ⟨-, hA4⟩ : True ∧ (0 < 64 * nb → ∃ g, A4 = some ⟨g, 0, none⟩) := ⟨trivial, fun h => by
            obtain ⟨g, c, e, _⟩ := hS6.out.2.2.1.some_ (by rw [(hS6.out.2.2.1.rd (ic_len _) rfl).1]; exact h)
            injection e with e _ _
            exact ⟨g, e⟩⟩
          have hR6 := hide (hS6.out.2.2.1.rd (ic_len _) rfl)
          obtain ⟨hc4, hc4m⟩ : 64 * nb ≤ c4 ∧ c4 ≤ maxLen := by
            obtain ⟨_, c, e, h1, h2⟩ := hS6.out.2.2.1.slice
            rw [hR6.out.1] at h1
            injection e with _ _ e
            exact ⟨by omega, by omega⟩
          have hHw : Hid (Hw w (wo.alloc (.cells #[.int .u32 1732584193, .int .u32 4023233417, .int .u32 2562383102, .int .u32 271733878] 39)) wo.heap.size (stB (full l) 0)) := hide ⟨heap_alloc_new _ _, (Array.getElem?_eq_some_iff.1 hS6.out.2.1).1⟩
          have hMz : Hid (Mod (fun _ => False) w (wo.alloc (.cells #[.int .u32 1732584193, .int .u32 4023233417, .int .u32 2562383102, .int .u32 271733878] 39)) ∧ (wo.alloc (.cells #[.int .u32 1732584193, .int .u32 4023233417, .int .u32 2562383102, .int .u32 271733878] 39)).heap[w.heap.size]? = some z16) := hide ⟨hS6.out.1.alloc _, ((Mod.refl (fun _ => False) wo).alloc _).heap hS6.out.2.1 (fun h => h)⟩
          have hR7 := hide (hR6.out.alloc (.cells #[.int .u32 1732584193, .int .u32 4023233417, .int .u32 2562383102, .int .u32 271733878] 39))
          have hA5 : Hid (0 < 64 * nb → ∃ g o, A4 = some ⟨g, o, none⟩ ∧ g < wo.heap.size) := hide (fun h => by
            obtain ⟨g, e⟩ := hA4 h
            subst e
            have := World.block_lt_of_cell? _ _ (rd_at hR6.out 0 h)
            exact ⟨g, 0, rfl, this⟩)
          clear hA4 hS6 hR6
          go_wp2
          go_loopw [3] (fun v ws => ∃ (j r : Nat) (A : Option Addr) (c : Nat), j ≤ nb ∧ Hid (r = 64 * nb - 64 * j) ∧ v = .slice A r c ∧ r ≤ c ∧ c ≤ maxLen ∧ Hid (Rd ws 1 (ic .u8) A r ((full l).drop (64 * j))) ∧ Hid (0 < r → ∃ g o, A = some ⟨g, o, none⟩ ∧ g < wo.heap.size) ∧
            Hid (Hw w ws wo.heap.size (stB (full l) j)) ∧ Hid (Mod (fun _ => False) w ws ∧ ws.heap[w.heap.size]? = some z16)) (fun v _ => slen v)
          case atStart => exact ⟨0, 64 * nb, A4, c4, by omega, hide (by omega), rfl, hc4, hc4m, by simpa using hR7, hA5, hHw, hMz⟩
          case round =>
            clear hHw hMz hR7 hA5
            obtain ⟨j, r, A5, c5, hj, hrj, rfl, hrc, hcm, hR, hA, hH, hM⟩ := hrel
            by_cases hlt : j < nb
            · have hr64 : 64 ≤ r := by have := hrj.out; omega
              obtain ⟨g, o, rfl, hgl⟩ := hA.out (by omega)
              have hcall : Hid (Calls Try.prog 17 #[.agg #[.int .u32 (stB (full l) j).a, .int .u32 (stB (full l) j).b, .int .u32 (stB (full l) j).c, .int .u32 (stB (full l) j).d], .slice (some ⟨g, o, none⟩) r c5] wr fun e w' => e = .returned (.agg #[.int .u32 (stB (full l) (j + 1)).a, .int .u32 (stB (full l) (j + 1)).b, .int .u32 (stB (full l) (j + 1)).c, .int .u32 (stB (full l) (j + 1)).d]) ∧ Mod (fun _ => False) wr w') :=
                hide (turn_any _ _ _ _ g o r c5 ((full l).drop (64 * j)) wr (stB_u (full l) j) hR.out hr64 (by unfold maxLen at hcm; omega) (hide (fun x hx => full_by l hby.out x (List.mem_of_mem_drop hx))))
              obtain ⟨A6, hsl, hR6, o6, hA6⟩ := cut64 hR.out hr64 hrc
              rw [List.drop_drop, show 64 * j + 64 = 64 * (j + 1) from rfl] at hR6
              obtain ⟨r6, hr6⟩ : ∃ r6, r6 = r - 64 := ⟨_, rfl⟩
              obtain ⟨c6, hc6⟩ : ∃ c6, c6 = c5 - 64 := ⟨_, rfl⟩
              rw [← hr6, ← hc6] at hsl
              rw [← hr6] at hR6
              have hrj6 : Hid (r6 = 64 * nb - 64 * (j + 1)) := hide (by have := hrj.out; omega)
              have hrc6 : r6 ≤ c6 := by omega
              have hcm6 : c6 ≤ maxLen := by omega
              have hlt6 : r6 < r := by omega
              replace hr6 := hide hr6
              replace hc6 := hide hc6
              replace hR6 := hide hR6
              replace hA6 := hide hA6
              have z0 : wr.cell? ⟨wo.heap.size, 0, none⟩ = some (.int .u32 (stB (full l) j).a) := by rw [cell_of_row wr _ 0 _ 39 (0, 0) hH.out.1]; rfl
              have z1 : wr.cell? ⟨wo.heap.size, 1, none⟩ = some (.int .u32 (stB (full l) j).b) := by rw [cell_of_row wr _ 1 _ 39 (0, 0) hH.out.1]; rfl
              have z2 : wr.cell? ⟨wo.heap.size, 2, none⟩ = some (.int .u32 (stB (full l) j).c) := by rw [cell_of_row wr _ 2 _ 39 (0, 0) hH.out.1]; rfl
              have z3 : wr.cell? ⟨wo.heap.size, 3, none⟩ = some (.int .u32 (stB (full l) j).d) := by rw [cell_of_row wr _ 3 _ 39 (0, 0) hH.out.1]; rfl
              go_wp2_with (first
                | (go_at_call 17; (with_reducible refine hcall.out.mono ?_); rintro e w8 ⟨rfl, h8⟩
                   have h9 := h8.heap hH.out.1 (fun h => h)
                   have y0 : w8.cell? ⟨wo.heap.size, 0, none⟩ = some (.int .u32 (stB (full l) j).a) := by rw [cell_of_row w8 _ 0 _ 39 (0, 0) h9]; rfl
                   have y1 : w8.cell? ⟨wo.heap.size, 1, none⟩ = some (.int .u32 (stB (full l) j).b) := by rw [cell_of_row w8 _ 1 _ 39 (0, 0) h9]; rfl
                   have y2 : w8.cell? ⟨wo.heap.size, 2, none⟩ = some (.int .u32 (stB (full l) j).c) := by rw [cell_of_row w8 _ 2 _ 39 (0, 0) h9]; rfl
                   have y3 : w8.cell? ⟨wo.heap.size, 3, none⟩ = some (.int .u32 (stB (full l) j).d) := by rw [cell_of_row w8 _ 3 _ 39 (0, 0) h9]; rfl
                   have f0 := frozen_of_row w8 _ 0 _ 39 h9
                   have f1 := frozen_of_row w8 _ 1 _ 39 h9
                   have f2 := frozen_of_row w8 _ 2 _ 39 h9
                   have f3 := frozen_of_row w8 _ 3 _ 39 h9
                   have hv := set4 h9 (.int .u32 (stB (full l) (j + 1)).a) (.int .u32 (stB (full l) (j + 1)).b) (.int .u32 (stB (full l) (j + 1)).c) (.int .u32 (stB (full l) (j + 1)).d)
                   replace hv := hide hv
                   replace h8 := hide h8
                   clear h9))
              go_roundw
              case rel =>
                have hmm8 := hM.out.1.trans h8.out (fun _ _ h => h)
                have hlts := hH.out.2
                refine ⟨j + 1, r6, A6, c6, by omega, hrj6, rfl, hrc6, hcm6, hide ?_, hide fun _ => ⟨g, o6, hA6.out, hgl⟩, hide ⟨hv.out.1, hH.out.2⟩, hide ⟨hmm8.trans hv.out.2 (fun i hi hg => by omega), ?_⟩⟩
                · refine (hR6.out.mod h8.out (fun _ _ h => h)).mod hv.out.2 (fun ad e => ?_)
                  rw [hA6.out] at e
                  obtain rfl := Option.some.inj e
                  show ¬ g = wo.heap.size
                  omega
                · exact hv.out.2.heap (h8.out.heap hM.out.2 (fun h => h)) (by omega)
              case measure => exact hlt6
            · have hjn : j = nb := by omega
              have hr0 : r = 0 := by have := hrj.out; omega
              subst hr0
              rw [hjn] at hH
              replace hjn := hide hjn
              have hwb : wr.heap.size < (wr.alloc z16).heap.size := by simp
              have hlts := hH.out.2
              have hhb := (Array.getElem?_eq_some_iff.1 hH.out.1).1
              have hO0 : Hid (Ow w (wr.alloc z16) wo.heap.size wr.heap.size (stB (full l) nb) 0) := hide ⟨hM.out.1.alloc _, ((Mod.refl (fun _ => False) wr).alloc _).heap hM.out.2 (fun h => h), ⟨((Mod.refl (fun _ => False) wr).alloc _).heap hH.out.1 (fun h => h), hH.out.2⟩, _, heap_alloc_new _ _, rfl, (fun i hi => by omega), hhb⟩
              unfold z16 at hO0
              clear hR hA hM hrj hcm hrc
              go_wp2
              obtain ⟨wp, hwp⟩ : ∃ wp : World, wp = wr := ⟨_, rfl⟩
              subst hwp
              go_loopw [8, 45] (fun x i wr => ∃ k : Nat, k ≤ 16 ∧ i = .int .i64 k ∧ Hid (Ow w wr wo.heap.size wp.heap.size (stB (full l) nb) k)) (fun _ i _ => 16 - (intOf i).toNat)
              case atStart => exact ⟨0, by omega, rfl, hO0⟩
              case round =>
                clear hO0 hH
                obtain ⟨k2, hk2, rfl, hO⟩ := hrel
                by_cases hlt2 : k2 < 16
                · have c1 := hO.out.word (k2 / 4) (by omega)
                  obtain ⟨u, c2⟩ := hO.out.byte k2 hlt2
                  have c3 := hO.out.free k2
                  have b3 := stB_at (full l) nb (k2 / 4)
                  obtain ⟨b1, b2⟩ := b3
                  have n1 : ((k2 : Int) / 4).toNat = k2 / 4 := by omega
                  have n2 : (8 * ((k2 : Int) % 4)).toNat = 8 * (k2 % 4) := by omega
                  have hO2 := hO.out.put hlt2
                  replace hO2 := hide hO2
                  generalize hx : (stB (full l) nb).at_ (k2 / 4) = x at *
                  replace hx := hide hx
                  go_wp2
                  go_roundw
                  case rel => exact ⟨k2 + 1, by omega, by go_num, hO2⟩
                  case measure => simp [intOf]; omega
                · have hk16 : k2 = 16 := by omega
                  rw [hk16] at hO
                  replace hk16 := hide hk16
                  obtain ⟨o1, o2, o3, ms, o4, o5, o6, o7⟩ := hO.out
                  have hms : Hid (ms = ((md l).map (Value.int .u8)).toArray) := hide (by
                    have e : md l = outB (stB (full l) nb) 16 := by unfold md; rw [hnb.out]
                    rw [e]
                    apply Array.ext_getElem?
                    intro i
                    by_cases hi : i < 16
                    · rw [o6 i hi]
                      simp [outB, hi]
                    · rw [Array.getElem?_eq_none (by omega)]
                      symm
                      apply Array.getElem?_eq_none
                      simp [outB_len]
                      omega)
                  have hone : ms.all (·.oneCell') = true := by
                    rw [hms.out, Array.all_eq_true_iff_forall_mem]
                    intro v hv
                    simp at hv
                    obtain ⟨x, _, rfl⟩ := hv
                    rfl
                  have hsz : (Try.prog.info? 24).map (·.size) = some ms.size := by rw [o5]; kernel_rfl
                  have ho5 : (16 : Nat) = ms.size := o5.symm
                  replace o1 := hide o1
                  replace o3 := hide o3
                  replace o6 := hide o6
                  replace o5 := hide o5
                  replace hone := hide hone
                  replace hsz := hide hsz
                  replace ho5 := hide ho5
                  replace o4 := hide o4
                  replace o2 := hide o2
                  go_wp2_with (first
                    | (refine wpList_load_row rfl 24 (.tmp 7) rfl wp.heap.size rfl 24 ms (0, 0) _ o4.out Try.underlying24 rfl hsz.out ?_)
                    | (refine wpList_store_row rfl 24 (.tmp 2) (.tmp 60) rfl w.heap.size ms rfl rfl 24 _ o2.out hsz.out ho5.out hone.out ?_))
                  refine bodyPost_ret (results_cell_row rfl _ _ w.heap.size 24 ms (0, 0) _ rfl (setRow_heap _ _ _ _ _ _ o2.out) Try.underlying24 rfl hsz.out) rfl ?_
                  rw [← hms.out]
                  exact ⟨rfl, mod_setRow o1.out (.inr (Nat.le_refl _)) _⟩
end Go.Proofs.Ytipkdhcbajcamaa
