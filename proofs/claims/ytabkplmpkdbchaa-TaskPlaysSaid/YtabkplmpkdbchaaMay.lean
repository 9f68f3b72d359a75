/-
  The walks of (*task.Set).may and Ready. Conditions: a set of at most a thousand tasks in memory of its own.
-/
import Derived.Test.YtabkplmpkdbchaaTask
namespace Go.Proofs.Ytabkplmpkdbchaa
open Go.RowKit

/-- Does the task at j let the one at i start? -/
def okAt (l : List T) (i j : Nat) : Bool := j == i || (gi l i).at_ == 2 || ((gi l j).at_ != 2 && !(decide (j < i) && ((gi l i).at_ == 1 || (gi l j).at_ == 1)))
/-- May the task at i start now? -/
def mayB (l : List T) (aca : Int) (i : Nat) : Bool := !(gi l i).st && if 0 ≤ aca then (gi l i).at_ == 3 else (List.range l.length).all (okAt l i)
theorem mayB_no {l : List T} {aca : Int} {i j : Nat} (ha : aca < 0) (hj : j < l.length) (h : okAt l i j = false) : mayB l aca i = false := by
  have : (List.range l.length).all (okAt l i) = false := by
    rw [List.all_eq_false]
    exact ⟨j, List.mem_range.2 hj, by rw [h]; decide⟩
  rw [mayB, if_neg (by omega), this, Bool.and_false]
theorem mayB_yes {l : List T} {aca : Int} {i : Nat} (ha : aca < 0) (hs : (gi l i).st = false) (h : ∀ j, j < l.length → okAt l i j = true) : mayB l aca i = true := by
  have : (List.range l.length).all (okAt l i) = true := by
    rw [List.all_eq_true]
    exact fun j hj => h j (List.mem_range.1 hj)
  rw [mayB, if_neg (by omega), this, hs]
  rfl

/-- The same of two tasks and their places. -/
def okV (t u : T) (i k : Nat) : Bool := k == i || t.at_ == 2 || (u.at_ != 2 && !(decide (k < i) && (t.at_ == 1 || u.at_ == 1)))
section
variable {t u : T} {i k : Nat}
theorem okV1 (h : (k : Int) = (i : Int)) : okV t u i k = true := by
  have : k = i := by omega
  simp [okV, this]
theorem okV2 (h : ((k : Int) == (i : Int)) = true ∨ (t.at_ == 2) = true) : okV t u i k = true := by
  rcases h with h | h
  · exact okV1 (by simpa using h)
  · simp [okV, h]
theorem okV_off (h : ((k : Int) == (i : Int)) = false ∧ (t.at_ == 2) = false) : okV t u i k = (u.at_ != 2 && !(decide (k < i) && (t.at_ == 1 || u.at_ == 1))) := by
  have : (k == i) = false := by have := h.1; simp at this ⊢; omega
  simp [okV, this, h.2]
theorem okV3 (h : ((k : Int) == (i : Int)) = false ∧ (t.at_ == 2) = false) (h2 : (u.at_ == 2) = true) : okV t u i k = false := by
  rw [okV_off h]; simp [bne, h2]
theorem okV4 (h : ((k : Int) == (i : Int)) = false ∧ (t.at_ == 2) = false) (_h2 : (u.at_ == 2) = false) (h3 : k < i) (h4 : t.at_ = 1) : okV t u i k = false := by
  rw [okV_off h]; simp [h3, h4]
theorem okV5 (h : ((k : Int) == (i : Int)) = false ∧ (t.at_ == 2) = false) (_h2 : (u.at_ == 2) = false) (h3 : k < i) (h4 : (t.at_ == 1) = true ∨ (u.at_ == 1) = true) : okV t u i k = false := by
  rw [okV_off h]; rcases h4 with h4 | h4 <;> simp [h3, h4]
theorem okV6 (h : ((k : Int) == (i : Int)) = false ∧ (t.at_ == 2) = false) (h2 : (u.at_ == 2) = false) (_h3 : k < i) (h4 : (t.at_ == 1) = false ∧ (u.at_ == 1) = false) : okV t u i k = true := by
  rw [okV_off h]; simp [bne, h2, h4.1, h4.2]
theorem okV7 (h : ((k : Int) == (i : Int)) = false ∧ (t.at_ == 2) = false) (h2 : (u.at_ == 2) = false) (h3 : ¬ k < i) : okV t u i k = true := by
  rw [okV_off h]; simp [bne, h2]; omega
end

set_option maxRecDepth 100000 in
set_option maxHeartbeats 2000000 in
theorem may_some (b i : Nat) (l : List T) (aca : Int) (F : Nat → Prop) (w : World) (hl : l.length ≤ 1000) (hi : i < l.length) (hs : S w b l aca F) :
    Calls Try.prog 30 #[.pointer (some ⟨b, 0, none⟩), .int .i64 i] w fun e w' => e = .returned (.bool (mayB l aca i)) ∧ Mod (fun _ => False) w w' := by
  obtain ⟨A, cap, hc, ha, -, -, hr, -, -, -⟩ := hs.at_
  have hblt := hs.lt
  clear hs
  obtain ⟨len, hlen⟩ : ∃ len, len = l.length := ⟨_, rfl⟩
  rw [← hlen] at hc hr hl hi
  replace hlen := hide hlen
  obtain ⟨ad, rfl, hc4⟩ := hr.elem i hi
  replace hr := hide hr
  obtain ⟨t, ht⟩ : ∃ t, t = gi l i := ⟨_, rfl⟩
  rw [← ht] at hc4
  replace hc4 := hide hc4
  have hmw : Mod (fun _ => False) w (w.alloc (.cells #[.int .i64 t.nx, .int .u32 t.tag, .int .u8 t.at_, .bool t.st] 26)) := (Mod.refl _ w).alloc _
  have hcB := hmw.cell hc (by simp)
  have haB := hmw.cell ha (by simp)
  have hbx : (w.alloc (.cells #[.int .i64 t.nx, .int .u32 t.tag, .int .u8 t.at_, .bool t.st] 26)).heap[w.heap.size]? = some (.cells #[.int .i64 t.nx, .int .u32 t.tag, .int .u8 t.at_, .bool t.st] 26) := heap_alloc_new _ _
  have hlt0 : ∀ p, p < w.heap.size → True := fun _ _ => trivial
  clear hlt0
  replace hmw := hide hmw
  replace hbx := hide hbx
  by_cases hst : t.st = true
  · have hres : mayB l aca i = false := by rw [mayB, ← ht, hst]; rfl
    rw [hres]
    replace hres := hide hres
    replace ht := hide ht
    go_enter Try.func30, Try.ntmps30
    go_wp2_with (refine list_load 26 (.tmp 13) rfl rfl _ Try.underlying26 rfl (ad.add (i * 4)) [.int .i64 t.nx, .int .u32 t.tag, .int .u8 t.at_, .bool t.st] size26 rfl hc4.out ?_)
    go_ret
    exact ⟨rfl, (Mod.refl _ w).alloc _⟩
  · have hst : t.st = false := by simpa using hst
    by_cases hac : 0 ≤ aca
    · have hres : mayB l aca i = (t.at_ == 3) := by rw [mayB, ← ht, hst, if_pos hac]; rfl
      rw [hres]
      replace hres := hide hres
      replace ht := hide ht
      have hd : decide (0 ≤ aca) = true := by simpa using hac
      go_enter Try.func30, Try.ntmps30
      go_wp2_with (refine list_load 26 (.tmp 13) rfl rfl _ Try.underlying26 rfl (ad.add (i * 4)) [.int .i64 t.nx, .int .u32 t.tag, .int .u8 t.at_, .bool t.st] size26 rfl hc4.out ?_)
      go_ret
      exact ⟨rfl, (Mod.refl _ w).alloc _⟩
    · have hd : decide (0 ≤ aca) = false := by simpa using hac
      have hac' : aca < 0 := by omega
      obtain ⟨r, hres⟩ : ∃ r, r = mayB l aca i := ⟨_, rfl⟩
      rw [← hres]
      have hst2 : (gi l i).st = false := by rw [← ht]; exact hst
      have hno : ∀ j, j < len → okAt l i j = false → r = false := fun j hj h => by rw [hres]; exact mayB_no hac' (by rw [← hlen.out]; exact hj) h
      have hyes : (∀ j, j < len → okAt l i j = true) → r = true := fun h => by rw [hres]; exact mayB_yes hac' hst2 fun j hj => h j (by rw [hlen.out]; exact hj)
      replace hno := hide hno
      replace hyes := hide hyes
      clear hres hac' hst2
      replace ht := hide ht
      go_enter Try.func30, Try.ntmps30
      go_wp2_with (refine list_load 26 (.tmp 13) rfl rfl _ Try.underlying26 rfl (ad.add (i * 4)) [.int .i64 t.nx, .int .u32 t.tag, .int .u8 t.at_, .bool t.st] size26 rfl hc4.out ?_)
      rw [hst] at hmw hbx
      obtain ⟨W0, hW0⟩ : ∃ W0, W0 = w.alloc (.cells #[.int .i64 t.nx, .int .u32 t.tag, .int .u8 t.at_, .bool false] 26) := ⟨_, rfl⟩
      rw [← hW0] at hmw hbx
      replace hW0 := hide hW0
      clear hc ha hcB haB
      go_loopw [30] (fun u wr => ∃ k : Nat, k ≤ len ∧ u = .int .i64 k ∧ Hid (Mod (fun _ => False) W0 wr ∧ ∀ j, j < k → okAt l i j = true)) (fun u _ => len - (intOf u).toNat)
      case atStart => exact ⟨0, by omega, rfl, hide ⟨by rw [hW0.out]; exact Mod.refl _ _, fun j hj => by omega⟩⟩
      case round =>
        obtain ⟨k, hk, rfl, hR⟩ := hrel
        by_cases hlt : k < len
        · obtain ⟨ad', e', hk4⟩ := (hr.out.mod (F := fun _ => False) (hmw.out.trans hR.out.1 (by simp)) (by simp)).elem k hlt
          obtain rfl : ad = ad' := by simpa using e'
          clear e'
          have hbr := hR.out.1.heap hbx.out (by simp)
          have q2 : wr.cell? ⟨w.heap.size, 2, none⟩ = some (.int .u8 t.at_) := by rw [cell_of_row wr _ _ _ 26 (0, 0) hbr]; rfl
          have hltw : w.heap.size < wr.heap.size := (Array.getElem?_eq_some_iff.1 hbr).1
          clear hbr
          obtain ⟨u, hu⟩ : ∃ u, u = gi l k := ⟨_, rfl⟩
          rw [← hu] at hk4
          have hok : okV t u i k = okAt l i k := by rw [hu, ht.out]; rfl
          replace hu := hide hu
          replace hok := hide hok
          replace hk4 := hide hk4
          go_wp2_with (refine list_load 26 (.tmp 33) rfl rfl _ Try.underlying26 rfl (ad.add (k * 4)) [.int .i64 u.nx, .int .u32 u.tag, .int .u8 u.at_, .bool u.st] size26 rfl hk4.out ?_)
          all_goals first
            | (have hf : okV t u i k = true := by first | exact okV1 ‹_› | exact okV2 ‹_› | exact okV6 ‹_› ‹_› ‹_› ‹_› | exact okV7 ‹_› ‹_› ‹_›
               rw [hok.out] at hf
               have hn : ∀ j, j < k + 1 → okAt l i j = true := fun j hj => by
                 by_cases e : j = k
                 · subst e; exact hf
                 · exact hR.out.2 j (by omega)
               go_roundw
               case rel => exact ⟨k + 1, by omega, by go_num, hide ⟨hR.out.1.alloc _, hn⟩⟩
               case measure => simp [intOf]; omega)
            | (have hf : okV t u i k = false := by first | exact okV3 ‹_› ‹_› | exact okV4 ‹_› ‹_› ‹_› ‹_› | exact okV5 ‹_› ‹_› ‹_› ‹_›
               rw [hok.out] at hf
               have hr1 := hno.out k hlt hf
               go_ret
               exact ⟨ret_bool hr1.symm, (hmw.out.trans hR.out.1 (by simp)).alloc _⟩)
        · obtain rfl : k = len := by omega
          have hr1 := hyes.out hR.out.2
          replace hr1 := hide hr1
          go_wp2_with fail
          go_ret
          exact ⟨ret_bool hr1.out.symm, hmw.out.trans hR.out.1 (by simp)⟩
end Go.Proofs.Ytabkplmpkdbchaa
