/-
  chap.turn, walked: one block of 64 bytes is mixed in.
-/
import Derived.Test.YtipkdhcbajcamaaMd
import Derived.BigRegion
import Derived.IntWalk
import Derived.Outline
namespace Go.Proofs.Ytipkdhcbajcamaa
open Go.RowKit

/-- The blocks of a turn: what it began with, what it answers, the words. -/
def Tw (w wr : World) (a b c d : Int) (k : Nat) (l : List Int) : Prop :=
  Mod (fun _ => False) w wr ∧ wr.heap[w.heap.size]? = some (.cells #[.int .u32 a, .int .u32 b, .int .u32 c, .int .u32 d] 39 (0, 0)) ∧
  wr.heap[w.heap.size + 1]? = some (.cells #[.int .u32 0, .int .u32 0, .int .u32 0, .int .u32 0] 39 (0, 0)) ∧
  ∃ ms : Array Value, wr.heap[w.heap.size + 1 + 1]? = some (.cells ms 47 (0, 0)) ∧ ms.size = 16 ∧ ∀ i, i < k → ms[i]? = some (.int .u32 (wd l i))

theorem Tw.drew {w wr : World} {a b c d : Int} {k : Nat} {l : List Int} (h : Tw w wr a b c d k l) : Tw w wr.drew a b c d k l := ⟨h.1.drew, h.2.1, h.2.2.1, h.2.2.2⟩
theorem Tw.drewN {w wr : World} {a b c d : Int} {k : Nat} {l : List Int} (h : Tw w wr a b c d k l) (n : Nat) : Tw w (wr.drewN n) a b c d k l := ⟨h.1.drewN n, h.2.1, h.2.2.1, h.2.2.2⟩
theorem Tw.put {w wr : World} {a b c d : Int} {k : Nat} {l : List Int} (h : Tw w wr a b c d k l) (hk : k < 16) :
    Tw w (wr.setCell ⟨w.heap.size + 1 + 1, k, none⟩ (.int .u32 (wd l k))) a b c d (k + 1) l := by
  obtain ⟨h1, h2, h3, ms, h4, h5, h6⟩ := h
  refine ⟨h1.setCell (.inr (by simp; omega)) _, ?_, ?_, ms.setIfInBounds k (.int .u32 (wd l k)), ?_, by simpa using h5, fun i hi => ?_⟩
  · rw [heap_setCell_other _ _ _ _ (by simp; omega)]; exact h2
  · rw [heap_setCell_other _ _ _ _ (by simp)]; exact h3
  · simp [World.setCell, Array.getElem?_modify, h4]
  · rw [Array.getElem?_setIfInBounds]
    split
    · rename_i e
      subst e
      rw [if_pos (by omega)]
    · exact h6 i (by omega)
theorem word_q (i : Nat) (w : World) (hi : i < 64) : Calls Try.prog 23 #[.int .i64 i] w fun e w' => e = .returned (.int .u32 (gi kl i)) ∧ w' = w := (word_any i w hi).mono fun _ _ h => ⟨h.1, h.2.symm⟩
theorem shift_q (i : Nat) (w : World) (hi : i < 64) : Calls Try.prog 24 #[.int .i64 i] w fun e w' => e = .returned (.int .i64 (sh i)) ∧ w' = w := (shift_any i w hi).mono fun _ _ h => ⟨h.1, h.2.symm⟩
theorem rot_q (x s : Int) (w : World) (hx : 0 ≤ x ∧ x < 4294967296) (hs : 0 ≤ s ∧ s < 32) : Calls Try.prog 22 #[.int .u32 x, .int .i64 s] w fun e w' => e = .returned (.int .u32 (rl x s)) ∧ w' = w := (rot_any x s w hx hs).mono fun _ _ h => ⟨h.1, h.2.symm⟩

set_option maxHeartbeats 2000000 in
set_option maxRecDepth 100000 in
theorem turn_any (a b c d : Int) (g o len cap : Nat) (l : List Int) (w : World) (hh : QU ⟨a, b, c, d⟩)
    (hr : Rd w 1 (ic .u8) (some ⟨g, o, none⟩) len l) (hlen : 64 ≤ len) (hcap : len ≤ 9223372036854775807) (hby : Hid (∀ x ∈ l, 0 ≤ x ∧ x ≤ 255)) :
    Calls Try.prog 17 #[.agg #[.int .u32 a, .int .u32 b, .int .u32 c, .int .u32 d], .slice (some ⟨g, o, none⟩) len cap] w fun e w' =>
      e = .returned (.agg #[.int .u32 (blk ⟨a, b, c, d⟩ l).a, .int .u32 (blk ⟨a, b, c, d⟩ l).b, .int .u32 (blk ⟨a, b, c, d⟩ l).c, .int .u32 (blk ⟨a, b, c, d⟩ l).d]) ∧ Mod (fun _ => False) w w' := by
  have hadb : g < w.heap.size := World.block_lt_of_cell? w _ (rd_at hr 0 (by omega))
  have HL : Hid (l.length = len) := hr.1
  replace hr := hide hr
  obtain ⟨⟨ha1, ha2⟩, ⟨hb1, hb2⟩, ⟨hc1, hc2⟩, ⟨hd1, hd2⟩⟩ : U a ∧ U b ∧ U c ∧ U d := ⟨hh.1, hh.2.1, hh.2.2.1, hh.2.2.2⟩
  replace hh := hide hh
  go_enter Try.func17, Try.ntmps17
  go_wp2
  go_loopw [6, 14] (fun x i wr => ∃ k : Nat, k ≤ 16 ∧ i = .int .i64 k ∧ Hid (Tw w wr a b c d k l)) (fun _ i _ => 16 - (intOf i).toNat)
  case atStart =>
    refine ⟨0, by omega, rfl, hide ⟨(((Mod.refl _ w).alloc _).alloc _).alloc _, ?_, ?_, _, tri2 w _ _ _, rfl, fun i hi => by omega⟩⟩
    · exact tri0 w _ _ _
    · exact tri1 w _ _ _
  case round =>
    obtain ⟨k, hk, rfl, hm⟩ := hrel
    by_cases hlt : k < 16
    · have hrr := hr.out.mod hm.out.1 (fun _ _ h => h)
      have hc0 : wr.cell? ⟨g, o + (4 * k), none⟩ = some (.int .u8 (gi l (4 * k))) := rd_at hrr (4 * k) (by omega)
      have hc1 : wr.cell? ⟨g, o + (4 * k + 1), none⟩ = some (.int .u8 (gi l (4 * k + 1))) := rd_at hrr (4 * k + 1) (by omega)
      have hc2 : wr.cell? ⟨g, o + (4 * k + 2), none⟩ = some (.int .u8 (gi l (4 * k + 2))) := rd_at hrr (4 * k + 2) (by omega)
      have hc3 : wr.cell? ⟨g, o + (4 * k + 3), none⟩ = some (.int .u8 (gi l (4 * k + 3))) := rd_at hrr (4 * k + 3) (by omega)
      have hL := HL.out
      obtain ⟨b01, b02⟩ := hby.out _ (gi_mem (i := 4 * k) (l := l) (by omega))
      obtain ⟨b11, b12⟩ := hby.out _ (gi_mem (i := 4 * k + 1) (l := l) (by omega))
      obtain ⟨b21, b22⟩ := hby.out _ (gi_mem (i := 4 * k + 2) (l := l) (by omega))
      obtain ⟨b31, b32⟩ := hby.out _ (gi_mem (i := 4 * k + 3) (l := l) (by omega))
      obtain ⟨v, hcs⟩ : ∃ v, wr.cell? ⟨w.heap.size + 1 + 1, k, none⟩ = some v := by
        obtain ⟨_, _, _, ms, h1, h2, _⟩ := hm.out
        rw [cell_of_row wr _ k ms 47 (0, 0) h1]
        exact ⟨_, Array.getElem?_eq_getElem (by omega)⟩
      have hfs : wr.frozen? ⟨w.heap.size + 1 + 1, k, none⟩ = false := by
        obtain ⟨_, _, _, ms, h1, h2, _⟩ := hm.out
        exact frozen_of_row wr _ k ms 47 h1
      have hw : wd l k = gi l (4 * k) + 256 * gi l (4 * k + 1) + 65536 * gi l (4 * k + 2) + 16777216 * gi l (4 * k + 3) := rfl
      clear hrr hL
      generalize gi l (4 * k) = x0 at *
      generalize gi l (4 * k + 1) = x1 at *
      generalize gi l (4 * k + 2) = x2 at *
      generalize gi l (4 * k + 3) = x3 at *
      have hor := or_word x0 x1 x2 x3 b01 b02 b11 b12 b21 b22 b31 b32
      rw [← hw] at hor
      replace hor := hide hor
      clear hw
      go_wp2
      have p0 : (0 : Int) ≤ 4 * (k : Int) := by omega
      have q0 : 4 * (k : Int) < (len : Int) := by omega
      have n0 : (4 * (k : Int)).toNat = 4 * k := by omega
      have p1 : (0 : Int) ≤ 4 * (k : Int) + 1 := by omega
      have q1 : 4 * (k : Int) + 1 < (len : Int) := by omega
      have n1 : (4 * (k : Int) + 1).toNat = 4 * k + 1 := by omega
      have p2 : (0 : Int) ≤ 4 * (k : Int) + 2 := by omega
      have q2 : 4 * (k : Int) + 2 < (len : Int) := by omega
      have n2 : (4 * (k : Int) + 2).toNat = 4 * k + 2 := by omega
      have p3 : (0 : Int) ≤ 4 * (k : Int) + 3 := by omega
      have q3 : 4 * (k : Int) + 3 < (len : Int) := by omega
      have n3 : (4 * (k : Int) + 3).toNat = 4 * k + 3 := by omega
      have e1 : IntKind.i64.wrap (4 * (k : Int) + 1) = 4 * (k : Int) + 1 := IntWalk.i64_in _ (by omega)
      have e2 : IntKind.i64.wrap (4 * (k : Int) + 2) = 4 * (k : Int) + 2 := IntWalk.i64_in _ (by omega)
      have e3 : IntKind.i64.wrap (4 * (k : Int) + 3) = 4 * (k : Int) + 3 := IntWalk.i64_in _ (by omega)
      have e0 : IntKind.i64.wrap (4 * (k : Int)) = 4 * (k : Int) := IntWalk.i64_in _ (by omega)
      go_region
      clear p0 q0 n0 p1 q1 n1 p2 q2 n2 p3 q3 n3 e0 e1 e2 e3
      go_wp2
      go_roundw
      case rel =>
        refine ⟨k + 1, by omega, by go_num, ?_⟩
        rw [hor.out]
        exact hide (hm.out.put hlt).drew
      case measure => simp [intOf]; omega
    · obtain rfl : k = 16 := by omega
      have z0 : wr.cell? ⟨w.heap.size, 0, none⟩ = some (.int .u32 a) := by rw [cell_of_row wr _ 0 _ 39 (0, 0) hm.out.2.1]; rfl
      have z1 : wr.cell? ⟨w.heap.size, 1, none⟩ = some (.int .u32 b) := by rw [cell_of_row wr _ 1 _ 39 (0, 0) hm.out.2.1]; rfl
      have z2 : wr.cell? ⟨w.heap.size, 2, none⟩ = some (.int .u32 c) := by rw [cell_of_row wr _ 2 _ 39 (0, 0) hm.out.2.1]; rfl
      have z3 : wr.cell? ⟨w.heap.size, 3, none⟩ = some (.int .u32 d) := by rw [cell_of_row wr _ 3 _ 39 (0, 0) hm.out.2.1]; rfl
      go_wp2
      go_quiet (fail)
      clear z0 z1 z2 z3
      go_wp2
      go_loopw [7, 8, 9, 10, 11, 61] (fun A B C D x i wr => ∃ k : Nat, k ≤ 64 ∧ i = .int .i64 k ∧ Hid (Tw w wr a b c d 16 l) ∧ A = .int .u32 (rnd (wd l) ⟨a, b, c, d⟩ k).a ∧ B = .int .u32 (rnd (wd l) ⟨a, b, c, d⟩ k).b ∧ C = .int .u32 (rnd (wd l) ⟨a, b, c, d⟩ k).c ∧ D = .int .u32 (rnd (wd l) ⟨a, b, c, d⟩ k).d) (fun _ _ _ _ _ i _ => 64 - (intOf i).toNat)
      case atStart => exact ⟨0, by omega, rfl, hide (hm.out.drewN _), rfl, rfl, rfl, rfl⟩
      case round =>
        clear hm
        obtain ⟨k, hk, rfl, hm, rfl, rfl, rfl, rfl⟩ := hrel
        obtain ⟨⟨hA1, hA2⟩, ⟨hB1, hB2⟩, ⟨hC1, hC2⟩, ⟨hD1, hD2⟩⟩ := rnd_u (wd l) ⟨a, b, c, d⟩ hh.out k
        have hS : rnd (wd l) ⟨a, b, c, d⟩ (k + 1) = stp (wd l) k (rnd (wd l) ⟨a, b, c, d⟩ k) := rfl
        by_cases hlt : k < 64
        · generalize rnd (wd l) ⟨a, b, c, d⟩ k = s at *
          obtain ⟨A, B, C, D⟩ := s
          dsimp only at hA1 hA2 hB1 hB2 hC1 hC2 hD1 hD2
          replace hS := hide hS
          obtain ⟨s1, s2⟩ := sh_bd k hlt
          obtain ⟨t1, t2⟩ := kl_bd k hlt
          by_cases h0 : k / 16 = 0
          · have y1 : ((k : Int) / 16 == 1) = false := by simp; omega
            have y2 : ((k : Int) / 16 == 2) = false := by simp; omega
            have y3 : ((k : Int) / 16 == 3) = false := by simp; omega
            have hcm : wr.cell? ⟨w.heap.size + 1 + 1, gF k, none⟩ = some (.int .u32 (wd l (gF k))) := by
              obtain ⟨_, _, _, ms, m1, m2, m3⟩ := hm.out
              rw [cell_of_row wr _ _ ms 47 (0, 0) m1]
              exact m3 _ (gF_bd k hlt)
            have hgb := gF_bd k hlt
            have hS' : Hid (stp (wd l) k ⟨A, B, C, D⟩ = ⟨D, (B + rl ((A + bits .or .u32 (bits .and .u32 B C) (bits .and .u32 (bits .xor .u32 IntKind.u32.max B) D) + gi kl k + wd l (gF k)) % 4294967296) (sh k)) % 4294967296, B, C⟩) := hide (by simp only [stp, fF, nt, if_pos h0])
            have hg : gF k = k := by unfold gF; rw [if_pos h0]
            rw [hg] at hcm hS'
            clear hg
            go_wp2
            go_quiet ((first | (go_at_call 23; exact Calls.quiet_of_same (word_q _ _ hlt)) | (go_at_call 24; exact Calls.quiet_of_same (shift_q _ _ hlt)) | (go_at_call 22; exact Calls.quiet_of_same (rot_q _ _ _ ⟨by omega, by omega⟩ ⟨by omega, by omega⟩))))
            go_wp2
            go_roundw
            case rel =>
              (repeat apply Exists.intro)
              refine ⟨⟨k + 1, by omega, by go_num, hide (hm.out.drewN _), ?_⟩, rfl⟩
              rw [hS.out, hS'.out]
              exact ⟨rfl, rfl, rfl, rfl⟩
            case measure => simp [intOf]; omega
          by_cases h1 : k / 16 = 1
          · have y1 : ((k : Int) / 16 == 1) = true := by simp; omega
            have y2 : ((k : Int) / 16 == 2) = false := by simp; omega
            have y3 : ((k : Int) / 16 == 3) = false := by simp; omega
            have hcm : wr.cell? ⟨w.heap.size + 1 + 1, gF k, none⟩ = some (.int .u32 (wd l (gF k))) := by
              obtain ⟨_, _, _, ms, m1, m2, m3⟩ := hm.out
              rw [cell_of_row wr _ _ ms 47 (0, 0) m1]
              exact m3 _ (gF_bd k hlt)
            have hgb := gF_bd k hlt
            have hS' : Hid (stp (wd l) k ⟨A, B, C, D⟩ = ⟨D, (B + rl ((A + bits .or .u32 (bits .and .u32 D B) (bits .and .u32 (bits .xor .u32 IntKind.u32.max D) C) + gi kl k + wd l (gF k)) % 4294967296) (sh k)) % 4294967296, B, C⟩) := hide (by simp only [stp, fF, nt, if_neg h0, if_pos h1])
            have hg : (5 * (k : Int) + 1) % 16 = ((gF k : Nat) : Int) := by unfold gF; rw [if_neg h0, if_pos h1]; omega
            go_wp2
            go_quiet ((first | (go_at_call 23; exact Calls.quiet_of_same (word_q _ _ hlt)) | (go_at_call 24; exact Calls.quiet_of_same (shift_q _ _ hlt)) | (go_at_call 22; exact Calls.quiet_of_same (rot_q _ _ _ ⟨by omega, by omega⟩ ⟨by omega, by omega⟩))))
            go_wp2
            go_roundw
            case rel =>
              (repeat apply Exists.intro)
              refine ⟨⟨k + 1, by omega, by go_num, hide (hm.out.drewN _), ?_⟩, rfl⟩
              rw [hS.out, hS'.out]
              exact ⟨rfl, rfl, rfl, rfl⟩
            case measure => simp [intOf]; omega
          by_cases h2 : k / 16 = 2
          · have y1 : ((k : Int) / 16 == 1) = false := by simp; omega
            have y2 : ((k : Int) / 16 == 2) = true := by simp; omega
            have y3 : ((k : Int) / 16 == 3) = false := by simp; omega
            have hcm : wr.cell? ⟨w.heap.size + 1 + 1, gF k, none⟩ = some (.int .u32 (wd l (gF k))) := by
              obtain ⟨_, _, _, ms, m1, m2, m3⟩ := hm.out
              rw [cell_of_row wr _ _ ms 47 (0, 0) m1]
              exact m3 _ (gF_bd k hlt)
            have hgb := gF_bd k hlt
            have hS' : Hid (stp (wd l) k ⟨A, B, C, D⟩ = ⟨D, (B + rl ((A + bits .xor .u32 (bits .xor .u32 B C) D + gi kl k + wd l (gF k)) % 4294967296) (sh k)) % 4294967296, B, C⟩) := hide (by simp only [stp, fF, nt, if_neg h0, if_neg h1, if_pos h2])
            have hg : (3 * (k : Int) + 5) % 16 = ((gF k : Nat) : Int) := by unfold gF; rw [if_neg h0, if_neg h1, if_pos h2]; omega
            go_wp2
            go_quiet ((first | (go_at_call 23; exact Calls.quiet_of_same (word_q _ _ hlt)) | (go_at_call 24; exact Calls.quiet_of_same (shift_q _ _ hlt)) | (go_at_call 22; exact Calls.quiet_of_same (rot_q _ _ _ ⟨by omega, by omega⟩ ⟨by omega, by omega⟩))))
            go_wp2
            go_roundw
            case rel =>
              (repeat apply Exists.intro)
              refine ⟨⟨k + 1, by omega, by go_num, hide (hm.out.drewN _), ?_⟩, rfl⟩
              rw [hS.out, hS'.out]
              exact ⟨rfl, rfl, rfl, rfl⟩
            case measure => simp [intOf]; omega
          · have y1 : ((k : Int) / 16 == 1) = false := by simp; omega
            have y2 : ((k : Int) / 16 == 2) = false := by simp; omega
            have y3 : ((k : Int) / 16 == 3) = true := by simp; omega
            have hcm : wr.cell? ⟨w.heap.size + 1 + 1, gF k, none⟩ = some (.int .u32 (wd l (gF k))) := by
              obtain ⟨_, _, _, ms, m1, m2, m3⟩ := hm.out
              rw [cell_of_row wr _ _ ms 47 (0, 0) m1]
              exact m3 _ (gF_bd k hlt)
            have hgb := gF_bd k hlt
            have hS' : Hid (stp (wd l) k ⟨A, B, C, D⟩ = ⟨D, (B + rl ((A + bits .xor .u32 C (bits .or .u32 B (bits .xor .u32 IntKind.u32.max D)) + gi kl k + wd l (gF k)) % 4294967296) (sh k)) % 4294967296, B, C⟩) := hide (by simp only [stp, fF, nt, if_neg h0, if_neg h1, if_neg h2])
            have hg : 7 * (k : Int) % 16 = ((gF k : Nat) : Int) := by unfold gF; rw [if_neg h0, if_neg h1, if_neg h2]; omega
            go_wp2
            go_quiet ((first | (go_at_call 23; exact Calls.quiet_of_same (word_q _ _ hlt)) | (go_at_call 24; exact Calls.quiet_of_same (shift_q _ _ hlt)) | (go_at_call 22; exact Calls.quiet_of_same (rot_q _ _ _ ⟨by omega, by omega⟩ ⟨by omega, by omega⟩))))
            go_wp2
            go_roundw
            case rel =>
              (repeat apply Exists.intro)
              refine ⟨⟨k + 1, by omega, by go_num, hide (hm.out.drewN _), ?_⟩, rfl⟩
              rw [hS.out, hS'.out]
              exact ⟨rfl, rfl, rfl, rfl⟩
            case measure => simp [intOf]; omega
        · obtain rfl : k = 64 := by omega
          have z0 : wr.cell? ⟨w.heap.size, 0, none⟩ = some (.int .u32 a) := by rw [cell_of_row wr _ 0 _ 39 (0, 0) hm.out.2.1]; rfl
          have z1 : wr.cell? ⟨w.heap.size, 1, none⟩ = some (.int .u32 b) := by rw [cell_of_row wr _ 1 _ 39 (0, 0) hm.out.2.1]; rfl
          have z2 : wr.cell? ⟨w.heap.size, 2, none⟩ = some (.int .u32 c) := by rw [cell_of_row wr _ 2 _ 39 (0, 0) hm.out.2.1]; rfl
          have z3 : wr.cell? ⟨w.heap.size, 3, none⟩ = some (.int .u32 d) := by rw [cell_of_row wr _ 3 _ 39 (0, 0) hm.out.2.1]; rfl
          have v0 : wr.cell? ⟨w.heap.size + 1, 0, none⟩ = some (.int .u32 0) := by rw [cell_of_row wr _ 0 _ 39 (0, 0) hm.out.2.2.1]; rfl
          have v1 : wr.cell? ⟨w.heap.size + 1, 1, none⟩ = some (.int .u32 0) := by rw [cell_of_row wr _ 1 _ 39 (0, 0) hm.out.2.2.1]; rfl
          have v2 : wr.cell? ⟨w.heap.size + 1, 2, none⟩ = some (.int .u32 0) := by rw [cell_of_row wr _ 2 _ 39 (0, 0) hm.out.2.2.1]; rfl
          have v3 : wr.cell? ⟨w.heap.size + 1, 3, none⟩ = some (.int .u32 0) := by rw [cell_of_row wr _ 3 _ 39 (0, 0) hm.out.2.2.1]; rfl
          have f0 := frozen_of_row wr _ 0 _ 39 hm.out.2.2.1
          have f1 := frozen_of_row wr _ 1 _ 39 hm.out.2.2.1
          have f2 := frozen_of_row wr _ 2 _ 39 hm.out.2.2.1
          have f3 := frozen_of_row wr _ 3 _ 39 hm.out.2.2.1
          clear hS
          have hB : Hid (blk ⟨a, b, c, d⟩ l = ⟨(a + (rnd (wd l) ⟨a, b, c, d⟩ 64).a) % 4294967296, (b + (rnd (wd l) ⟨a, b, c, d⟩ 64).b) % 4294967296, (c + (rnd (wd l) ⟨a, b, c, d⟩ 64).c) % 4294967296, (d + (rnd (wd l) ⟨a, b, c, d⟩ 64).d) % 4294967296⟩) := hide rfl
          generalize rnd (wd l) ⟨a, b, c, d⟩ 64 = s at *
          obtain ⟨A, B, C, D⟩ := s
          dsimp only at hA1 hA2 hB1 hB2 hC1 hC2 hD1 hD2
          have hv := set4 hm.out.2.2.1 (.int .u32 ((a + A) % 4294967296)) (.int .u32 ((b + B) % 4294967296)) (.int .u32 ((c + C) % 4294967296)) (.int .u32 ((d + D) % 4294967296))
          have hmod : Mod (fun _ => False) w _ := hm.out.1.trans hv.2 (fun k hk hg => by omega)
          replace hv := hide hv
          replace hmod := hide hmod
          go_wp2
          refine bodyPost_ret (results_cell_row rfl _ _ (w.heap.size + 1) 39 #[.int .u32 ((a + A) % 4294967296), .int .u32 ((b + B) % 4294967296), .int .u32 ((c + C) % 4294967296), .int .u32 ((d + D) % 4294967296)] (0, 0) _ rfl hv.out.1 Try.underlying39 rfl (by kernel_rfl)) rfl ?_
          rw [hB.out]
          exact ⟨rfl, hmod.out⟩
end Go.Proofs.Ytipkdhcbajcamaa
