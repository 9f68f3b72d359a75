/-
  The walk of (*task.Set).Ready. Conditions: a set of at most a thousand tasks in memory of its own.
-/
import Derived.Test.YtabkplmpkdbchaaMay
namespace Go.Proofs.Ytabkplmpkdbchaa
open Go.RowKit

/-- Those of the first k that may start. -/
def readyTo (l : List T) (aca : Int) (k : Nat) : List T := ((List.range k).filter (mayB l aca)).map (gi l)
/-- The tasks that may start, in their order. -/
def readyL (l : List T) (aca : Int) : List T := readyTo l aca l.length
theorem readyTo_yes {l : List T} {aca : Int} {k : Nat} (h : mayB l aca k = true) : readyTo l aca (k + 1) = readyTo l aca k ++ [gi l k] := by
  simp [readyTo, List.range_succ, List.filter_append, h]
theorem readyTo_no {l : List T} {aca : Int} {k : Nat} (h : mayB l aca k = false) : readyTo l aca (k + 1) = readyTo l aca k := by
  simp [readyTo, List.range_succ, List.filter_append, h]
theorem readyTo_length (l : List T) (aca : Int) (k : Nat) : (readyTo l aca k).length ≤ k := by
  simp only [readyTo, List.length_map]
  exact Nat.le_trans (List.length_filter_le _ _) (by simp)

/-- A struct in a block of its own, cell by cell. -/
theorem box_cells {W W1 : World} {cs : List Value} {e : TypeId} (hm : Mod (fun _ => False) (W.alloc (.cells cs.toArray e)) W1) : ∀ j u, cs[j]? = some u → W1.cell? ((⟨W.heap.size, 0, none⟩ : Addr).add j) = some u := by
  intro j u hu
  have e1 : (⟨W.heap.size, 0, none⟩ : Addr).add j = ⟨W.heap.size, j, none⟩ := by simp [Addr.add]; rintro rfl; rfl
  rw [e1]
  refine hm.cell ?_ (by simp)
  rw [World.cell?_alloc_new]
  simpa using hu

set_option maxRecDepth 100000 in
set_option maxHeartbeats 2000000 in
theorem ready_some (b : Nat) (l : List T) (aca : Int) (F : Nat → Prop) (w : World) (hl : l.length ≤ 1000) (hs : S w b l aca F) :
    Calls Try.prog 16 #[.pointer (some ⟨b, 0, none⟩)] w fun e w' => ∃ v, e = .returned v ∧ Row w' 26 4 enc v (readyL l aca) ∧ Mod (fun _ => False) w w' ∧ ∀ k, v.ownBlock = some k → w.heap.size ≤ k := by
  obtain ⟨A, cap, hc, -, -, -, hr, -, -, -⟩ := hs.at_
  obtain ⟨len, hlen⟩ : ∃ len, len = l.length := ⟨_, rfl⟩
  have hlL := hl
  rw [← hlen] at hc hr hl
  have hrl : readyL l aca = readyTo l aca len := by rw [hlen]; rfl
  rw [hrl]
  clear hrl
  replace hlen := hide hlen
  replace hr := hide hr
  replace hs := hide hs
  replace hlL := hide hlL
  go_enter Try.func16, Try.ntmps16
  go_wp2_with fail
  go_loopw [3, 13] (fun u v wr => ∃ k : Nat, k ≤ len ∧ v = .int .i64 k ∧ (∃ A m c, u = .slice A m c) ∧ Hid (Row wr 26 4 enc u (readyTo l aca k) ∧ Mod (fun _ => False) w wr ∧ ∀ j, u.ownBlock = some j → w.heap.size ≤ j)) (fun _ v _ => len - (intOf v).toNat)
  case atStart => exact ⟨0, by omega, rfl, ⟨_, _, _, rfl⟩, hide ⟨Row.nil _ _ _ _, Mod.refl _ _, by simp [Value.ownBlock]⟩⟩
  case round =>
    obtain ⟨k, hk, rfl, ⟨A1, m1, c1, rfl⟩, hR⟩ := hrel
    by_cases hlt : k < len
    · obtain ⟨ad, rfl, hc4⟩ := (hr.out.mod hR.out.2.1 (by simp)).elem k hlt
      obtain ⟨t, ht⟩ : ∃ t, t = gi l k := ⟨_, rfl⟩
      rw [← ht] at hc4
      replace hc4 := hide hc4
      have hW := (Mod.refl (fun _ => False) wr).alloc (.cells #[.int .i64 t.nx, .int .u32 t.tag, .int .u8 t.at_, .bool t.st] 26)
      have hmay := may_some b k l aca F (wr.alloc (.cells #[.int .i64 t.nx, .int .u32 t.tag, .int .u8 t.at_, .bool t.st] 26)) hlL.out (by rw [← hlen.out]; exact hlt) (hs.out.mod (hR.out.2.1.trans hW (by simp)) (by simp))
      have hlr := readyTo_length l aca k
      obtain ⟨r, hres⟩ : ∃ r, r = mayB l aca k := ⟨_, rfl⟩
      rw [← hres] at hmay
      replace hmay := hide hmay
      replace hW := hide hW
      cases r
      · have hst : readyTo l aca (k + 1) = readyTo l aca k := readyTo_no hres.symm
        replace hres := hide hres
        replace hst := hide hst
        replace ht := hide ht
        go_wp2_with (first
          | (refine list_load 26 (.tmp 16) rfl rfl _ Try.underlying26 rfl (ad.add (k * 4)) [.int .i64 t.nx, .int .u32 t.tag, .int .u8 t.at_, .bool t.st] size26 rfl hc4.out ?_)
          | (go_at_call 30; (with_reducible refine hmay.out.mono ?_); rintro e w1 ⟨rfl, hm1⟩))
        have hWm := hW.out.trans hm1 (by simp)
        go_roundw
        case rel => exact ⟨k + 1, by omega, by go_num, ⟨_, _, _, rfl⟩, hide ⟨by rw [hst.out]; exact hR.out.1.mod hWm (by simp), hR.out.2.1.trans hWm (by simp), hR.out.2.2⟩⟩
        case measure => simp [intOf]; omega
      · have hst : readyTo l aca (k + 1) = readyTo l aca k ++ [t] := by rw [ht]; exact readyTo_yes hres.symm
        replace hres := hide hres
        replace hst := hide hst
        replace ht := hide ht
        go_wp2_with (first
          | (refine list_load 26 (.tmp 16) rfl rfl _ Try.underlying26 rfl (ad.add (k * 4)) [.int .i64 t.nx, .int .u32 t.tag, .int .u8 t.at_, .bool t.st] size26 rfl hc4.out ?_)
          | (go_at_call 30; (with_reducible refine hmay.out.mono ?_); rintro e w1 ⟨rfl, hm1⟩; have hbc := hide (box_cells (cs := [.int .i64 t.nx, .int .u32 t.tag, .int .u8 t.at_, .bool t.st]) hm1); replace hm1 := hide hm1)
          | (refine list_load 26 (.tmp 5) rfl rfl _ Try.underlying26 rfl ⟨wr.heap.size, 0, none⟩ [.int .i64 t.nx, .int .u32 t.tag, .int .u8 t.at_, .bool t.st] size26 rfl hbc.out ?_)
          | (at_builtin; refine list_app (.tmp 21) (.tmp 23) 30 26 _ 4 16 enc rfl rfl enc_len enc_one Try.underlying30 elem26 (.slice A1 m1 c1) (readyTo l aca k) (some ⟨w1.heap.size, 0, none⟩) 1 1 [t] rfl rfl ((hR.out.1.mod (hW.out.trans hm1.out (by simp)) (by simp)).alloc _) (Rd.box _ _ _ _) (by simp [maxLen]; omega) (by omega) ?_; intro v2 w2 h2 g2 a2; obtain ⟨A2, m2, c2, rfl⟩ := h2.form))
        have hWm := hR.out.2.1.trans (hW.out.trans hm1.out (by simp)) (by simp)
        go_roundw
        case rel =>
          refine ⟨k + 1, by omega, by go_num, ⟨_, _, _, rfl⟩, hide ⟨by rw [hst.out]; exact h2, (hWm.alloc _).grown g2 fun j hj => .inr (hR.out.2.2 j hj), fun j hj => ?_⟩⟩
          rcases a2 with e | e <;> rw [e] at hj
          · exact hR.out.2.2 j hj
          · have := hWm.size
            simp at hj
            omega
        case measure => simp [intOf]; omega
    · obtain rfl : k = len := by omega
      go_wp2_with fail
      go_ret
      exact ⟨_, rfl, hR.out⟩
end Go.Proofs.Ytabkplmpkdbchaa
