/-
  The walks of (*task.Set).drop, for each of the five functions that are handed to it, and of these. Conditions: a set of at most a thousand tasks in memory of its own.
-/
import Derived.Test.YtabkplmpkdbchaaReady
import Derived.Test.YtabkplmpkdbchaaEnter
namespace Go.Proofs.Ytabkplmpkdbchaa
open Go.RowKit

/-- All; those that came for the allegiance; those of a nexus. -/
def pAll (_ : T) : Bool := true
def pAca (t : T) : Bool := t.at_ == 3
def pNx (nx : Int) (t : T) : Bool := t.nx == nx
/-- F, and what is new but for a row that is handed back. -/
def PlusBut (F : Nat → Prop) (w w' : World) (v : Value) : Nat → Prop := fun k => F k ∨ (w.heap.size ≤ k ∧ k < w'.heap.size ∧ v.ownBlock ≠ some k)

set_option maxHeartbeats 400000 in
theorem fn28 (t : T) (a : Addr) (nx : Int) (w : World) (hc : w.cell? a = some (.int .i64 nx)) :
    Calls Try.prog 28 #[av t, .pointer (some a)] w fun e w' => e = .returned (.bool (pNx nx t)) ∧ Mod (fun _ => False) w w' := by
  have hlt := World.block_lt_of_cell? w a hc
  have hc1 : (w.alloc (.cells #[.int .i64 t.nx, .int .u32 t.tag, .int .u8 t.at_, .bool t.st] 26)).cell? a = some (.int .i64 nx) := by rw [World.cell?_alloc_lt _ _ _ hlt]; exact hc
  obtain ⟨tn, tt, ta, ts⟩ := t
  dsimp only at *
  go_enter Try.func28, Try.ntmps28
  go_wp2
  go_ret
  exact ⟨rfl, (Mod.refl _ w).alloc _⟩
theorem fn29 (t : T) (w : World) : Calls Try.prog 29 #[av t] w fun e w' => e = .returned (.bool (pAll t)) ∧ Mod (fun _ => False) w w' := by
  obtain ⟨tn, tt, ta, ts⟩ := t
  go_enter Try.func29, Try.ntmps29
  go_wp2
  go_ret
  exact ⟨rfl, (Mod.refl _ w).alloc _⟩
theorem fn32 (t : T) (w : World) : Calls Try.prog 32 #[av t] w fun e w' => e = .returned (.bool (pAca t)) ∧ Mod (fun _ => False) w w' := by
  obtain ⟨tn, tt, ta, ts⟩ := t
  go_enter Try.func32, Try.ntmps32
  go_wp2
  go_ret
  exact ⟨rfl, (Mod.refl _ w).alloc _⟩
set_option maxHeartbeats 400000 in
theorem fn31 (t : T) (a a' : Addr) (nx tag : Int) (w : World) (hc : w.cell? a = some (.int .i64 nx)) (hc' : w.cell? a' = some (.int .u32 tag)) :
    Calls Try.prog 31 #[av t, .pointer (some a), .pointer (some a')] w fun e w' => e = .returned (.bool (hit nx tag t)) ∧ Mod (fun _ => False) w w' := by
  have hc1 : (w.alloc (.cells #[.int .i64 t.nx, .int .u32 t.tag, .int .u8 t.at_, .bool t.st] 26)).cell? a = some (.int .i64 nx) := by rw [World.cell?_alloc_lt _ _ _ (World.block_lt_of_cell? w a hc)]; exact hc
  have hc2 : (w.alloc (.cells #[.int .i64 t.nx, .int .u32 t.tag, .int .u8 t.at_, .bool t.st] 26)).cell? a' = some (.int .u32 tag) := by rw [World.cell?_alloc_lt _ _ _ (World.block_lt_of_cell? w a' hc')]; exact hc'
  obtain ⟨tn, tt, ta, ts⟩ := t
  dsimp only at *
  clear hc hc'
  by_cases h1 : tn = nx
  · have h1b : (tn == nx) = true := by simpa using h1
    have hh : hit nx tag ⟨tn, tt, ta, ts⟩ = (tt == tag) := by simp [hit, h1]
    rw [hh]
    clear h1 hh
    go_enter Try.func31, Try.ntmps31
    go_wp2
    go_ret
    exact ⟨rfl, (Mod.refl _ w).alloc _⟩
  · have h1b : (tn == nx) = false := by simpa using h1
    have hh : hit nx tag ⟨tn, tt, ta, ts⟩ = false := by simp [hit, h1]
    rw [hh]
    clear h1 hh
    go_enter Try.func31, Try.ntmps31
    go_wp2
    go_ret
    exact ⟨rfl, (Mod.refl _ w).alloc _⟩
set_option maxHeartbeats 400000 in
theorem fn40 (t : T) (a a' : Addr) (nx tag : Int) (w : World) (hc : w.cell? a = some (.int .i64 nx)) (hc' : w.cell? a' = some (.int .u32 tag)) :
    Calls Try.prog 40 #[av t, .pointer (some a), .pointer (some a')] w fun e w' => e = .returned (.bool (hit nx tag t)) ∧ Mod (fun _ => False) w w' := by
  have hc1 : (w.alloc (.cells #[.int .i64 t.nx, .int .u32 t.tag, .int .u8 t.at_, .bool t.st] 26)).cell? a = some (.int .i64 nx) := by rw [World.cell?_alloc_lt _ _ _ (World.block_lt_of_cell? w a hc)]; exact hc
  have hc2 : (w.alloc (.cells #[.int .i64 t.nx, .int .u32 t.tag, .int .u8 t.at_, .bool t.st] 26)).cell? a' = some (.int .u32 tag) := by rw [World.cell?_alloc_lt _ _ _ (World.block_lt_of_cell? w a' hc')]; exact hc'
  obtain ⟨tn, tt, ta, ts⟩ := t
  dsimp only at *
  clear hc hc'
  by_cases h1 : tn = nx
  · have h1b : (tn == nx) = true := by simpa using h1
    have hh : hit nx tag ⟨tn, tt, ta, ts⟩ = (tt == tag) := by simp [hit, h1]
    rw [hh]
    clear h1 hh
    go_enter Try.func40, Try.ntmps40
    go_wp2
    go_ret
    exact ⟨rfl, (Mod.refl _ w).alloc _⟩
  · have h1b : (tn == nx) = false := by simpa using h1
    have hh : hit nx tag ⟨tn, tt, ta, ts⟩ = false := by simp [hit, h1]
    rw [hh]
    clear h1 hh
    go_enter Try.func40, Try.ntmps40
    go_wp2
    go_ret
    exact ⟨rfl, (Mod.refl _ w).alloc _⟩

theorem filter_yes (p : T → Bool) (l : List T) (k : Nat) (h : k < l.length) (hp : p (gi l k) = true) : (l.take (k + 1)).filter p = (l.take k).filter p ++ [gi l k] := by
  rw [List.take_succ_eq_append_getElem h, List.filter_append, ← gi_eq l k h]
  simp [hp]
theorem filter_no (p : T → Bool) (l : List T) (k : Nat) (h : k < l.length) (hp : p (gi l k) = false) : (l.take (k + 1)).filter p = (l.take k).filter p := by
  rw [List.take_succ_eq_append_getElem h, List.filter_append, ← gi_eq l k h]
  simp [hp]
theorem filter_len (p : T → Bool) (l : List T) (k : Nat) : ((l.take k).filter p).length ≤ l.length := Nat.le_trans (List.length_filter_le _ _) (by simp; omega)

/-- What stands at the head of a round of drop. -/
def DR (p : T → Bool) (w W : World) (l : List T) (k : Nat) (u v : Value) : Prop :=
  Row W 26 4 enc u ((l.take k).filter p) ∧ Row W 26 4 enc v ((l.take k).filter fun t => !p t) ∧ Mod (fun _ => False) w W ∧ (∀ j, u.ownBlock = some j → w.heap.size ≤ j) ∧ (∀ j, v.ownBlock = some j → w.heap.size ≤ j) ∧
    ∀ j, u.ownBlock = some j → v.ownBlock ≠ some j
theorem DR.out_ {p : T → Bool} {w W W1 w2 : World} {l : List T} {k : Nat} {u v u2 : Value} {o : Obj} (h : DR p w W l k u v) (hm : Mod (fun _ => False) W W1) (hk : k < l.length) (hp : p (gi l k) = true)
    (h2 : Row w2 26 4 enc u2 ((l.take k).filter p ++ [gi l k])) (g2 : (W1.alloc o).grownBy w2 u.ownBlock) (a2 : u2.ownBlock = u.ownBlock ∨ u2.ownBlock = some (W1.alloc o).heap.size) : DR p w w2 l (k + 1) u2 v := by
  obtain ⟨r1, r2, r3, r4, r5, r6⟩ := h
  have hv : Row (W1.alloc o) 26 4 enc v ((l.take k).filter fun t => !p t) := (r2.mod hm (by simp)).alloc _
  refine ⟨by rw [filter_yes p l k hk hp]; exact h2, ?_, ((r3.trans hm (by simp)).alloc o).grown g2 fun j hj => .inr (r4 j hj), fun j hj => ?_, r5, fun j hj hvj => ?_⟩
  · rw [filter_no _ l k hk (by simp [hp])]
    exact hv.mod (grown_mod g2) fun j hj e => r6 j e hj
  · rcases a2 with e | e <;> rw [e] at hj
    · exact r4 j hj
    · have := r3.size; have := hm.size; simp at hj; omega
  · rcases a2 with e | e <;> rw [e] at hj
    · exact r6 j hj hvj
    · have := r2.lt j hvj; have := hm.size; simp at hj; omega
theorem DR.left_ {p : T → Bool} {w W W1 w2 : World} {l : List T} {k : Nat} {u v v2 : Value} {o : Obj} (h : DR p w W l k u v) (hm : Mod (fun _ => False) W W1) (hk : k < l.length) (hp : p (gi l k) = false)
    (h2 : Row w2 26 4 enc v2 (((l.take k).filter fun t => !p t) ++ [gi l k])) (g2 : (W1.alloc o).grownBy w2 v.ownBlock) (a2 : v2.ownBlock = v.ownBlock ∨ v2.ownBlock = some (W1.alloc o).heap.size) : DR p w w2 l (k + 1) u v2 := by
  obtain ⟨r1, r2, r3, r4, r5, r6⟩ := h
  have hu : Row (W1.alloc o) 26 4 enc u ((l.take k).filter p) := (r1.mod hm (by simp)).alloc _
  refine ⟨?_, by rw [filter_yes _ l k hk (by simp [hp])]; exact h2, ((r3.trans hm (by simp)).alloc o).grown g2 fun j hj => .inr (r5 j hj), r4, fun j hj => ?_, fun j hj hvj => ?_⟩
  · rw [filter_no _ l k hk hp]
    exact hu.mod (grown_mod g2) fun j hj e => r6 j hj e
  · rcases a2 with e | e <;> rw [e] at hj
    · exact r5 j hj
    · have := r3.size; have := hm.size; simp at hj; omega
  · rcases a2 with e | e <;> rw [e] at hvj
    · exact r6 j hj hvj
    · have := r1.lt j hj; have := hm.size; simp at hvj; omega
/-- What stays is laid into the set. -/
theorem DR.done {p : T → Bool} {w W : World} {l : List T} {u v : Value} {b : Nat} {aca : Int} {F : Nat → Prop} (h : DR p w W l l.length u v) (hs : S w b l aca F) :
    Row (W.setCell ⟨b, 0, none⟩ v) 26 4 enc u (l.filter p) ∧ S (W.setCell ⟨b, 0, none⟩ v) b (l.filter fun t => !p t) aca (PlusBut F w (W.setCell ⟨b, 0, none⟩ v) u) ∧ Mod F w (W.setCell ⟨b, 0, none⟩ v) ∧
      ∀ j, u.ownBlock = some j → w.heap.size ≤ j := by
  obtain ⟨r1, r2, r3, r4, r5, r6⟩ := h
  rw [List.take_of_length_le (Nat.le_refl _)] at r1 r2
  obtain ⟨x, h1, h2, h3, h4⟩ := hs
  have hbW := r3.heap h1 (by simp)
  have hset : Mod (fun k => k = b) W (W.setCell ⟨b, 0, none⟩ v) := (Mod.refl (fun k => k = b) W).setCell (p := ⟨b, 0, none⟩) (.inl rfl) v
  have hsz : (W.setCell ⟨b, 0, none⟩ v).heap.size = W.heap.size := by simp
  refine ⟨r1.mod hset fun k hk e => r1.ne hbW (by decide) (e ▸ hk), ⟨v, by simp [World.setCell, Array.getElem?_modify, hbW], .inl h2, r2.mod hset fun k hk e => r2.ne hbW (by decide) (e ▸ hk), fun k hk => .inr ⟨r5 k hk, by rw [hsz]; exact r2.lt k hk, fun e => r6 k e hk⟩⟩, (r3.mono (by simp)).setCell (.inl h2) v, r4⟩

set_option maxRecDepth 100000 in
set_option maxHeartbeats 2000000 in
theorem drop29 (b : Nat) (l : List T) (aca : Int) (F : Nat → Prop) (w : World) (hl : l.length ≤ 1000) (hs : S w b l aca F)  :
    Calls Try.prog 27 #[.pointer (some ⟨b, 0, none⟩), .func (.func 29) #[] #[]] w fun e w' => ∃ v, e = .returned v ∧ Row w' 26 4 enc v (l.filter pAll) ∧ S w' b (l.filter fun t => !pAll t) aca (PlusBut F w w' v) ∧ Mod F w w' ∧ ∀ j, v.ownBlock = some j → w.heap.size ≤ j := by
  obtain ⟨A, cap, hc, -, hfz, -, hr, -, -, -⟩ := hs.at_
  have hblt := hs.lt
  obtain ⟨len, hlen⟩ : ∃ len, len = l.length := ⟨_, rfl⟩
  rw [← hlen] at hc hr hl
  replace hlen := hide hlen
  replace hr := hide hr
  replace hs := hide hs

  go_enter Try.func27, Try.ntmps27
  go_wp2_with fail
  go_loopw [5, 6, 14] (fun u v x wr => ∃ k : Nat, k ≤ len ∧ x = .int .i64 k ∧ (∃ A m c, u = .slice A m c) ∧ (∃ A m c, v = .slice A m c) ∧ Hid (DR pAll w wr l k u v)) (fun _ _ x _ => len - (intOf x).toNat)
  case atStart => exact ⟨0, by omega, rfl, ⟨_, _, _, rfl⟩, ⟨_, _, _, rfl⟩, hide ⟨Row.nil _ _ _ _, Row.nil _ _ _ _, Mod.refl _ _, by simp [Value.ownBlock], by simp [Value.ownBlock], by simp [Value.ownBlock]⟩⟩
  case round =>
    obtain ⟨k, hk, rfl, ⟨A1, m1, c1, rfl⟩, ⟨A2, m2, c2, rfl⟩, hR⟩ := hrel
    by_cases hlt : k < len
    · have hkl : k < l.length := by rw [← hlen.out]; exact hlt
      have hm0 := hR.out.2.2.1
      obtain ⟨ad, rfl, hc4⟩ := (hr.out.mod hm0 (by simp)).elem k hlt
      obtain ⟨t, ht⟩ : ∃ t, t = gi l k := ⟨_, rfl⟩
      rw [← ht] at hc4
      replace hc4 := hide hc4
      have hW := (Mod.refl (fun _ => False) wr).alloc (.cells #[.int .i64 t.nx, .int .u32 t.tag, .int .u8 t.at_, .bool t.st] 26)
      have hcall : Calls Try.prog 29 #[av t] (wr.alloc (.cells #[.int .i64 t.nx, .int .u32 t.tag, .int .u8 t.at_, .bool t.st] 26)) fun e w' => e = .returned (.bool (pAll t)) ∧ Mod (fun _ => False) (wr.alloc (.cells #[.int .i64 t.nx, .int .u32 t.tag, .int .u8 t.at_, .bool t.st] 26)) w' := fn29 _ _
      have hb0 : ∀ j u, ([.int .i64 t.nx, .int .u32 t.tag, .int .u8 t.at_, .bool t.st] : List Value)[j]? = some u → (wr.alloc (.cells #[.int .i64 t.nx, .int .u32 t.tag, .int .u8 t.at_, .bool t.st] 26)).cell? ((⟨wr.heap.size, 0, none⟩ : Addr).add j) = some u :=
        box_cells (cs := [.int .i64 t.nx, .int .u32 t.tag, .int .u8 t.at_, .bool t.st]) (Mod.refl _ _)
      obtain ⟨r, hres⟩ : ∃ r, r = pAll t := ⟨_, rfl⟩
      rw [← hres] at hcall
      replace hcall := hide hcall
      replace hW := hide hW
      replace hb0 := hide hb0
      clear hm0
      have l1 := filter_len pAll l k
      have l2 := filter_len (fun t => !pAll t) l k
      have l3 : l.length ≤ 1000 := by rw [← hlen.out]; exact hl
      cases r
      · have hp : pAll (gi l k) = false := by rw [← ht]; exact hres.symm
        replace hp := hide hp
        replace ht := hide ht
        clear hres
        go_wp2_with (first
          | (refine list_load 26 (.tmp 16) rfl rfl _ Try.underlying26 rfl (ad.add (k * 4)) [.int .i64 t.nx, .int .u32 t.tag, .int .u8 t.at_, .bool t.st] size26 rfl hc4.out ?_)
          | (go_at_call 29; (with_reducible refine hcall.out.mono ?_); rintro e w1 ⟨rfl, hm1⟩; have hbc := hide (box_cells (cs := [.int .i64 t.nx, .int .u32 t.tag, .int .u8 t.at_, .bool t.st]) hm1); replace hm1 := hide hm1)
          | (refine list_load 26 (.tmp 8) rfl rfl _ Try.underlying26 rfl ⟨wr.heap.size, 0, none⟩ [.int .i64 t.nx, .int .u32 t.tag, .int .u8 t.at_, .bool t.st] size26 rfl (by first | exact hbc.out | exact hb0.out) ?_)
          | (at_builtin; refine list_app (.tmp 25) (.tmp 27) 30 26 _ 4 16 enc rfl rfl enc_len enc_one Try.underlying30 elem26 (.slice A2 m2 c2) ((l.take k).filter fun t => !pAll t) (some ⟨w1.heap.size, 0, none⟩) 1 1 [t] rfl rfl ((hR.out.2.1.mod (hW.out.trans hm1.out (by simp)) (by simp)).alloc _) (Rd.box _ _ _ _) (by simp only [maxLen]; omega) (by omega) ?_; intro v2 w2 h2 g2 a2; obtain ⟨A3, m3, c3, rfl⟩ := h2.form))
        go_roundw
        case rel => exact ⟨k + 1, by omega, by go_num, ⟨_, _, _, rfl⟩, ⟨_, _, _, rfl⟩, hide (hR.out.left_ (hW.out.trans hm1.out (by simp)) hkl hp.out (by rw [← ht.out]; exact h2) g2 a2)⟩
        case measure => simp [intOf]; omega
      · have hp : pAll (gi l k) = true := by rw [← ht]; exact hres.symm
        replace hp := hide hp
        replace ht := hide ht
        clear hres
        go_wp2_with (first
          | (refine list_load 26 (.tmp 16) rfl rfl _ Try.underlying26 rfl (ad.add (k * 4)) [.int .i64 t.nx, .int .u32 t.tag, .int .u8 t.at_, .bool t.st] size26 rfl hc4.out ?_)
          | (go_at_call 29; (with_reducible refine hcall.out.mono ?_); rintro e w1 ⟨rfl, hm1⟩; have hbc := hide (box_cells (cs := [.int .i64 t.nx, .int .u32 t.tag, .int .u8 t.at_, .bool t.st]) hm1); replace hm1 := hide hm1)
          | (refine list_load 26 (.tmp 8) rfl rfl _ Try.underlying26 rfl ⟨wr.heap.size, 0, none⟩ [.int .i64 t.nx, .int .u32 t.tag, .int .u8 t.at_, .bool t.st] size26 rfl (by first | exact hbc.out | exact hb0.out) ?_)
          | (at_builtin; refine list_app (.tmp 21) (.tmp 23) 30 26 _ 4 16 enc rfl rfl enc_len enc_one Try.underlying30 elem26 (.slice A1 m1 c1) ((l.take k).filter pAll) (some ⟨w1.heap.size, 0, none⟩) 1 1 [t] rfl rfl ((hR.out.1.mod (hW.out.trans hm1.out (by simp)) (by simp)).alloc _) (Rd.box _ _ _ _) (by simp only [maxLen]; omega) (by omega) ?_; intro v2 w2 h2 g2 a2; obtain ⟨A3, m3, c3, rfl⟩ := h2.form))
        go_roundw
        case rel => exact ⟨k + 1, by omega, by go_num, ⟨_, _, _, rfl⟩, ⟨_, _, _, rfl⟩, hide (hR.out.out_ (hW.out.trans hm1.out (by simp)) hkl hp.out (by rw [← ht.out]; exact h2) g2 a2)⟩
        case measure => simp [intOf]; omega
    · obtain rfl : k = len := by omega
      have hcr := hR.out.2.2.1.cell hc (by simp)
      have hfr := (hR.out.2.2.1.frozen (p := ⟨b, 0, none⟩) hblt (by simp)).trans hfz
      go_wp2_with fail
      go_ret
      have hd := hR.out
      rw [hlen.out] at hd
      exact ⟨_, rfl, hd.done hs.out⟩

set_option maxRecDepth 100000 in
set_option maxHeartbeats 2000000 in
theorem drop32 (b : Nat) (l : List T) (aca : Int) (F : Nat → Prop) (w : World) (hl : l.length ≤ 1000) (hs : S w b l aca F)  :
    Calls Try.prog 27 #[.pointer (some ⟨b, 0, none⟩), .func (.func 32) #[] #[]] w fun e w' => ∃ v, e = .returned v ∧ Row w' 26 4 enc v (l.filter pAca) ∧ S w' b (l.filter fun t => !pAca t) aca (PlusBut F w w' v) ∧ Mod F w w' ∧ ∀ j, v.ownBlock = some j → w.heap.size ≤ j := by
  obtain ⟨A, cap, hc, -, hfz, -, hr, -, -, -⟩ := hs.at_
  have hblt := hs.lt
  obtain ⟨len, hlen⟩ : ∃ len, len = l.length := ⟨_, rfl⟩
  rw [← hlen] at hc hr hl
  replace hlen := hide hlen
  replace hr := hide hr
  replace hs := hide hs

  go_enter Try.func27, Try.ntmps27
  go_wp2_with fail
  go_loopw [5, 6, 14] (fun u v x wr => ∃ k : Nat, k ≤ len ∧ x = .int .i64 k ∧ (∃ A m c, u = .slice A m c) ∧ (∃ A m c, v = .slice A m c) ∧ Hid (DR pAca w wr l k u v)) (fun _ _ x _ => len - (intOf x).toNat)
  case atStart => exact ⟨0, by omega, rfl, ⟨_, _, _, rfl⟩, ⟨_, _, _, rfl⟩, hide ⟨Row.nil _ _ _ _, Row.nil _ _ _ _, Mod.refl _ _, by simp [Value.ownBlock], by simp [Value.ownBlock], by simp [Value.ownBlock]⟩⟩
  case round =>
    obtain ⟨k, hk, rfl, ⟨A1, m1, c1, rfl⟩, ⟨A2, m2, c2, rfl⟩, hR⟩ := hrel
    by_cases hlt : k < len
    · have hkl : k < l.length := by rw [← hlen.out]; exact hlt
      have hm0 := hR.out.2.2.1
      obtain ⟨ad, rfl, hc4⟩ := (hr.out.mod hm0 (by simp)).elem k hlt
      obtain ⟨t, ht⟩ : ∃ t, t = gi l k := ⟨_, rfl⟩
      rw [← ht] at hc4
      replace hc4 := hide hc4
      have hW := (Mod.refl (fun _ => False) wr).alloc (.cells #[.int .i64 t.nx, .int .u32 t.tag, .int .u8 t.at_, .bool t.st] 26)
      have hcall : Calls Try.prog 32 #[av t] (wr.alloc (.cells #[.int .i64 t.nx, .int .u32 t.tag, .int .u8 t.at_, .bool t.st] 26)) fun e w' => e = .returned (.bool (pAca t)) ∧ Mod (fun _ => False) (wr.alloc (.cells #[.int .i64 t.nx, .int .u32 t.tag, .int .u8 t.at_, .bool t.st] 26)) w' := fn32 _ _
      have hb0 : ∀ j u, ([.int .i64 t.nx, .int .u32 t.tag, .int .u8 t.at_, .bool t.st] : List Value)[j]? = some u → (wr.alloc (.cells #[.int .i64 t.nx, .int .u32 t.tag, .int .u8 t.at_, .bool t.st] 26)).cell? ((⟨wr.heap.size, 0, none⟩ : Addr).add j) = some u :=
        box_cells (cs := [.int .i64 t.nx, .int .u32 t.tag, .int .u8 t.at_, .bool t.st]) (Mod.refl _ _)
      obtain ⟨r, hres⟩ : ∃ r, r = pAca t := ⟨_, rfl⟩
      rw [← hres] at hcall
      replace hcall := hide hcall
      replace hW := hide hW
      replace hb0 := hide hb0
      clear hm0
      have l1 := filter_len pAca l k
      have l2 := filter_len (fun t => !pAca t) l k
      have l3 : l.length ≤ 1000 := by rw [← hlen.out]; exact hl
      cases r
      · have hp : pAca (gi l k) = false := by rw [← ht]; exact hres.symm
        replace hp := hide hp
        replace ht := hide ht
        clear hres
        go_wp2_with (first
          | (refine list_load 26 (.tmp 16) rfl rfl _ Try.underlying26 rfl (ad.add (k * 4)) [.int .i64 t.nx, .int .u32 t.tag, .int .u8 t.at_, .bool t.st] size26 rfl hc4.out ?_)
          | (go_at_call 32; (with_reducible refine hcall.out.mono ?_); rintro e w1 ⟨rfl, hm1⟩; have hbc := hide (box_cells (cs := [.int .i64 t.nx, .int .u32 t.tag, .int .u8 t.at_, .bool t.st]) hm1); replace hm1 := hide hm1)
          | (refine list_load 26 (.tmp 8) rfl rfl _ Try.underlying26 rfl ⟨wr.heap.size, 0, none⟩ [.int .i64 t.nx, .int .u32 t.tag, .int .u8 t.at_, .bool t.st] size26 rfl (by first | exact hbc.out | exact hb0.out) ?_)
          | (at_builtin; refine list_app (.tmp 25) (.tmp 27) 30 26 _ 4 16 enc rfl rfl enc_len enc_one Try.underlying30 elem26 (.slice A2 m2 c2) ((l.take k).filter fun t => !pAca t) (some ⟨w1.heap.size, 0, none⟩) 1 1 [t] rfl rfl ((hR.out.2.1.mod (hW.out.trans hm1.out (by simp)) (by simp)).alloc _) (Rd.box _ _ _ _) (by simp only [maxLen]; omega) (by omega) ?_; intro v2 w2 h2 g2 a2; obtain ⟨A3, m3, c3, rfl⟩ := h2.form))
        go_roundw
        case rel => exact ⟨k + 1, by omega, by go_num, ⟨_, _, _, rfl⟩, ⟨_, _, _, rfl⟩, hide (hR.out.left_ (hW.out.trans hm1.out (by simp)) hkl hp.out (by rw [← ht.out]; exact h2) g2 a2)⟩
        case measure => simp [intOf]; omega
      · have hp : pAca (gi l k) = true := by rw [← ht]; exact hres.symm
        replace hp := hide hp
        replace ht := hide ht
        clear hres
        go_wp2_with (first
          | (refine list_load 26 (.tmp 16) rfl rfl _ Try.underlying26 rfl (ad.add (k * 4)) [.int .i64 t.nx, .int .u32 t.tag, .int .u8 t.at_, .bool t.st] size26 rfl hc4.out ?_)
          | (go_at_call 32; (with_reducible refine hcall.out.mono ?_); rintro e w1 ⟨rfl, hm1⟩; have hbc := hide (box_cells (cs := [.int .i64 t.nx, .int .u32 t.tag, .int .u8 t.at_, .bool t.st]) hm1); replace hm1 := hide hm1)
          | (refine list_load 26 (.tmp 8) rfl rfl _ Try.underlying26 rfl ⟨wr.heap.size, 0, none⟩ [.int .i64 t.nx, .int .u32 t.tag, .int .u8 t.at_, .bool t.st] size26 rfl (by first | exact hbc.out | exact hb0.out) ?_)
          | (at_builtin; refine list_app (.tmp 21) (.tmp 23) 30 26 _ 4 16 enc rfl rfl enc_len enc_one Try.underlying30 elem26 (.slice A1 m1 c1) ((l.take k).filter pAca) (some ⟨w1.heap.size, 0, none⟩) 1 1 [t] rfl rfl ((hR.out.1.mod (hW.out.trans hm1.out (by simp)) (by simp)).alloc _) (Rd.box _ _ _ _) (by simp only [maxLen]; omega) (by omega) ?_; intro v2 w2 h2 g2 a2; obtain ⟨A3, m3, c3, rfl⟩ := h2.form))
        go_roundw
        case rel => exact ⟨k + 1, by omega, by go_num, ⟨_, _, _, rfl⟩, ⟨_, _, _, rfl⟩, hide (hR.out.out_ (hW.out.trans hm1.out (by simp)) hkl hp.out (by rw [← ht.out]; exact h2) g2 a2)⟩
        case measure => simp [intOf]; omega
    · obtain rfl : k = len := by omega
      have hcr := hR.out.2.2.1.cell hc (by simp)
      have hfr := (hR.out.2.2.1.frozen (p := ⟨b, 0, none⟩) hblt (by simp)).trans hfz
      go_wp2_with fail
      go_ret
      have hd := hR.out
      rw [hlen.out] at hd
      exact ⟨_, rfl, hd.done hs.out⟩

set_option maxRecDepth 100000 in
set_option maxHeartbeats 2000000 in
theorem drop28 (b : Nat) (l : List T) (aca : Int) (F : Nat → Prop) (w : World) (hl : l.length ≤ 1000) (hs : S w b l aca F) (a : Addr) (nx : Int) (ha : w.cell? a = some (.int .i64 nx)) :
    Calls Try.prog 27 #[.pointer (some ⟨b, 0, none⟩), .func (.func 28) #[] #[.pointer (some a)]] w fun e w' => ∃ v, e = .returned v ∧ Row w' 26 4 enc v (l.filter (pNx nx)) ∧ S w' b (l.filter fun t => !(pNx nx) t) aca (PlusBut F w w' v) ∧ Mod F w w' ∧ ∀ j, v.ownBlock = some j → w.heap.size ≤ j := by
  obtain ⟨A, cap, hc, -, hfz, -, hr, -, -, -⟩ := hs.at_
  have hblt := hs.lt
  obtain ⟨len, hlen⟩ : ∃ len, len = l.length := ⟨_, rfl⟩
  rw [← hlen] at hc hr hl
  replace hlen := hide hlen
  replace hr := hide hr
  replace hs := hide hs
  replace ha := hide ha
  go_enter Try.func27, Try.ntmps27
  go_wp2_with fail
  go_loopw [5, 6, 14] (fun u v x wr => ∃ k : Nat, k ≤ len ∧ x = .int .i64 k ∧ (∃ A m c, u = .slice A m c) ∧ (∃ A m c, v = .slice A m c) ∧ Hid (DR (pNx nx) w wr l k u v)) (fun _ _ x _ => len - (intOf x).toNat)
  case atStart => exact ⟨0, by omega, rfl, ⟨_, _, _, rfl⟩, ⟨_, _, _, rfl⟩, hide ⟨Row.nil _ _ _ _, Row.nil _ _ _ _, Mod.refl _ _, by simp [Value.ownBlock], by simp [Value.ownBlock], by simp [Value.ownBlock]⟩⟩
  case round =>
    obtain ⟨k, hk, rfl, ⟨A1, m1, c1, rfl⟩, ⟨A2, m2, c2, rfl⟩, hR⟩ := hrel
    by_cases hlt : k < len
    · have hkl : k < l.length := by rw [← hlen.out]; exact hlt
      have hm0 := hR.out.2.2.1
      obtain ⟨ad, rfl, hc4⟩ := (hr.out.mod hm0 (by simp)).elem k hlt
      obtain ⟨t, ht⟩ : ∃ t, t = gi l k := ⟨_, rfl⟩
      rw [← ht] at hc4
      replace hc4 := hide hc4
      have hW := (Mod.refl (fun _ => False) wr).alloc (.cells #[.int .i64 t.nx, .int .u32 t.tag, .int .u8 t.at_, .bool t.st] 26)
      have hcall : Calls Try.prog 28 #[av t, .pointer (some a)] (wr.alloc (.cells #[.int .i64 t.nx, .int .u32 t.tag, .int .u8 t.at_, .bool t.st] 26)) fun e w' => e = .returned (.bool ((pNx nx) t)) ∧ Mod (fun _ => False) (wr.alloc (.cells #[.int .i64 t.nx, .int .u32 t.tag, .int .u8 t.at_, .bool t.st] 26)) w' := fn28 _ _ _ _ ((hm0.trans hW (by simp)).cell ha.out (by simp))
      have hb0 : ∀ j u, ([.int .i64 t.nx, .int .u32 t.tag, .int .u8 t.at_, .bool t.st] : List Value)[j]? = some u → (wr.alloc (.cells #[.int .i64 t.nx, .int .u32 t.tag, .int .u8 t.at_, .bool t.st] 26)).cell? ((⟨wr.heap.size, 0, none⟩ : Addr).add j) = some u :=
        box_cells (cs := [.int .i64 t.nx, .int .u32 t.tag, .int .u8 t.at_, .bool t.st]) (Mod.refl _ _)
      obtain ⟨r, hres⟩ : ∃ r, r = (pNx nx) t := ⟨_, rfl⟩
      rw [← hres] at hcall
      replace hcall := hide hcall
      replace hW := hide hW
      replace hb0 := hide hb0
      clear hm0
      have l1 := filter_len (pNx nx) l k
      have l2 := filter_len (fun t => !(pNx nx) t) l k
      have l3 : l.length ≤ 1000 := by rw [← hlen.out]; exact hl
      cases r
      · have hp : (pNx nx) (gi l k) = false := by rw [← ht]; exact hres.symm
        replace hp := hide hp
        replace ht := hide ht
        clear hres
        go_wp2_with (first
          | (refine list_load 26 (.tmp 16) rfl rfl _ Try.underlying26 rfl (ad.add (k * 4)) [.int .i64 t.nx, .int .u32 t.tag, .int .u8 t.at_, .bool t.st] size26 rfl hc4.out ?_)
          | (go_at_call 28; (with_reducible refine hcall.out.mono ?_); rintro e w1 ⟨rfl, hm1⟩; have hbc := hide (box_cells (cs := [.int .i64 t.nx, .int .u32 t.tag, .int .u8 t.at_, .bool t.st]) hm1); replace hm1 := hide hm1)
          | (refine list_load 26 (.tmp 8) rfl rfl _ Try.underlying26 rfl ⟨wr.heap.size, 0, none⟩ [.int .i64 t.nx, .int .u32 t.tag, .int .u8 t.at_, .bool t.st] size26 rfl (by first | exact hbc.out | exact hb0.out) ?_)
          | (at_builtin; refine list_app (.tmp 25) (.tmp 27) 30 26 _ 4 16 enc rfl rfl enc_len enc_one Try.underlying30 elem26 (.slice A2 m2 c2) ((l.take k).filter fun t => !(pNx nx) t) (some ⟨w1.heap.size, 0, none⟩) 1 1 [t] rfl rfl ((hR.out.2.1.mod (hW.out.trans hm1.out (by simp)) (by simp)).alloc _) (Rd.box _ _ _ _) (by simp only [maxLen]; omega) (by omega) ?_; intro v2 w2 h2 g2 a2; obtain ⟨A3, m3, c3, rfl⟩ := h2.form))
        go_roundw
        case rel => exact ⟨k + 1, by omega, by go_num, ⟨_, _, _, rfl⟩, ⟨_, _, _, rfl⟩, hide (hR.out.left_ (hW.out.trans hm1.out (by simp)) hkl hp.out (by rw [← ht.out]; exact h2) g2 a2)⟩
        case measure => simp [intOf]; omega
      · have hp : (pNx nx) (gi l k) = true := by rw [← ht]; exact hres.symm
        replace hp := hide hp
        replace ht := hide ht
        clear hres
        go_wp2_with (first
          | (refine list_load 26 (.tmp 16) rfl rfl _ Try.underlying26 rfl (ad.add (k * 4)) [.int .i64 t.nx, .int .u32 t.tag, .int .u8 t.at_, .bool t.st] size26 rfl hc4.out ?_)
          | (go_at_call 28; (with_reducible refine hcall.out.mono ?_); rintro e w1 ⟨rfl, hm1⟩; have hbc := hide (box_cells (cs := [.int .i64 t.nx, .int .u32 t.tag, .int .u8 t.at_, .bool t.st]) hm1); replace hm1 := hide hm1)
          | (refine list_load 26 (.tmp 8) rfl rfl _ Try.underlying26 rfl ⟨wr.heap.size, 0, none⟩ [.int .i64 t.nx, .int .u32 t.tag, .int .u8 t.at_, .bool t.st] size26 rfl (by first | exact hbc.out | exact hb0.out) ?_)
          | (at_builtin; refine list_app (.tmp 21) (.tmp 23) 30 26 _ 4 16 enc rfl rfl enc_len enc_one Try.underlying30 elem26 (.slice A1 m1 c1) ((l.take k).filter (pNx nx)) (some ⟨w1.heap.size, 0, none⟩) 1 1 [t] rfl rfl ((hR.out.1.mod (hW.out.trans hm1.out (by simp)) (by simp)).alloc _) (Rd.box _ _ _ _) (by simp only [maxLen]; omega) (by omega) ?_; intro v2 w2 h2 g2 a2; obtain ⟨A3, m3, c3, rfl⟩ := h2.form))
        go_roundw
        case rel => exact ⟨k + 1, by omega, by go_num, ⟨_, _, _, rfl⟩, ⟨_, _, _, rfl⟩, hide (hR.out.out_ (hW.out.trans hm1.out (by simp)) hkl hp.out (by rw [← ht.out]; exact h2) g2 a2)⟩
        case measure => simp [intOf]; omega
    · obtain rfl : k = len := by omega
      have hcr := hR.out.2.2.1.cell hc (by simp)
      have hfr := (hR.out.2.2.1.frozen (p := ⟨b, 0, none⟩) hblt (by simp)).trans hfz
      go_wp2_with fail
      go_ret
      have hd := hR.out
      rw [hlen.out] at hd
      exact ⟨_, rfl, hd.done hs.out⟩

set_option maxRecDepth 100000 in
set_option maxHeartbeats 2000000 in
theorem drop31 (b : Nat) (l : List T) (aca : Int) (F : Nat → Prop) (w : World) (hl : l.length ≤ 1000) (hs : S w b l aca F) (a a' : Addr) (nx tag : Int) (ha : w.cell? a = some (.int .i64 nx)) (ha' : w.cell? a' = some (.int .u32 tag)) :
    Calls Try.prog 27 #[.pointer (some ⟨b, 0, none⟩), .func (.func 31) #[] #[.pointer (some a), .pointer (some a')]] w fun e w' => ∃ v, e = .returned v ∧ Row w' 26 4 enc v (l.filter (hit nx tag)) ∧ S w' b (l.filter fun t => !(hit nx tag) t) aca (PlusBut F w w' v) ∧ Mod F w w' ∧ ∀ j, v.ownBlock = some j → w.heap.size ≤ j := by
  obtain ⟨A, cap, hc, -, hfz, -, hr, -, -, -⟩ := hs.at_
  have hblt := hs.lt
  obtain ⟨len, hlen⟩ : ∃ len, len = l.length := ⟨_, rfl⟩
  rw [← hlen] at hc hr hl
  replace hlen := hide hlen
  replace hr := hide hr
  replace hs := hide hs
  replace ha := hide ha
  replace ha' := hide ha'
  go_enter Try.func27, Try.ntmps27
  go_wp2_with fail
  go_loopw [5, 6, 14] (fun u v x wr => ∃ k : Nat, k ≤ len ∧ x = .int .i64 k ∧ (∃ A m c, u = .slice A m c) ∧ (∃ A m c, v = .slice A m c) ∧ Hid (DR (hit nx tag) w wr l k u v)) (fun _ _ x _ => len - (intOf x).toNat)
  case atStart => exact ⟨0, by omega, rfl, ⟨_, _, _, rfl⟩, ⟨_, _, _, rfl⟩, hide ⟨Row.nil _ _ _ _, Row.nil _ _ _ _, Mod.refl _ _, by simp [Value.ownBlock], by simp [Value.ownBlock], by simp [Value.ownBlock]⟩⟩
  case round =>
    obtain ⟨k, hk, rfl, ⟨A1, m1, c1, rfl⟩, ⟨A2, m2, c2, rfl⟩, hR⟩ := hrel
    by_cases hlt : k < len
    · have hkl : k < l.length := by rw [← hlen.out]; exact hlt
      have hm0 := hR.out.2.2.1
      obtain ⟨ad, rfl, hc4⟩ := (hr.out.mod hm0 (by simp)).elem k hlt
      obtain ⟨t, ht⟩ : ∃ t, t = gi l k := ⟨_, rfl⟩
      rw [← ht] at hc4
      replace hc4 := hide hc4
      have hW := (Mod.refl (fun _ => False) wr).alloc (.cells #[.int .i64 t.nx, .int .u32 t.tag, .int .u8 t.at_, .bool t.st] 26)
      have hcall : Calls Try.prog 31 #[av t, .pointer (some a), .pointer (some a')] (wr.alloc (.cells #[.int .i64 t.nx, .int .u32 t.tag, .int .u8 t.at_, .bool t.st] 26)) fun e w' => e = .returned (.bool ((hit nx tag) t)) ∧ Mod (fun _ => False) (wr.alloc (.cells #[.int .i64 t.nx, .int .u32 t.tag, .int .u8 t.at_, .bool t.st] 26)) w' := fn31 _ _ _ _ _ _ ((hm0.trans hW (by simp)).cell ha.out (by simp)) ((hm0.trans hW (by simp)).cell ha'.out (by simp))
      have hb0 : ∀ j u, ([.int .i64 t.nx, .int .u32 t.tag, .int .u8 t.at_, .bool t.st] : List Value)[j]? = some u → (wr.alloc (.cells #[.int .i64 t.nx, .int .u32 t.tag, .int .u8 t.at_, .bool t.st] 26)).cell? ((⟨wr.heap.size, 0, none⟩ : Addr).add j) = some u :=
        box_cells (cs := [.int .i64 t.nx, .int .u32 t.tag, .int .u8 t.at_, .bool t.st]) (Mod.refl _ _)
      obtain ⟨r, hres⟩ : ∃ r, r = (hit nx tag) t := ⟨_, rfl⟩
      rw [← hres] at hcall
      replace hcall := hide hcall
      replace hW := hide hW
      replace hb0 := hide hb0
      clear hm0
      have l1 := filter_len (hit nx tag) l k
      have l2 := filter_len (fun t => !(hit nx tag) t) l k
      have l3 : l.length ≤ 1000 := by rw [← hlen.out]; exact hl
      cases r
      · have hp : (hit nx tag) (gi l k) = false := by rw [← ht]; exact hres.symm
        replace hp := hide hp
        replace ht := hide ht
        clear hres
        go_wp2_with (first
          | (refine list_load 26 (.tmp 16) rfl rfl _ Try.underlying26 rfl (ad.add (k * 4)) [.int .i64 t.nx, .int .u32 t.tag, .int .u8 t.at_, .bool t.st] size26 rfl hc4.out ?_)
          | (go_at_call 31; (with_reducible refine hcall.out.mono ?_); rintro e w1 ⟨rfl, hm1⟩; have hbc := hide (box_cells (cs := [.int .i64 t.nx, .int .u32 t.tag, .int .u8 t.at_, .bool t.st]) hm1); replace hm1 := hide hm1)
          | (refine list_load 26 (.tmp 8) rfl rfl _ Try.underlying26 rfl ⟨wr.heap.size, 0, none⟩ [.int .i64 t.nx, .int .u32 t.tag, .int .u8 t.at_, .bool t.st] size26 rfl (by first | exact hbc.out | exact hb0.out) ?_)
          | (at_builtin; refine list_app (.tmp 25) (.tmp 27) 30 26 _ 4 16 enc rfl rfl enc_len enc_one Try.underlying30 elem26 (.slice A2 m2 c2) ((l.take k).filter fun t => !(hit nx tag) t) (some ⟨w1.heap.size, 0, none⟩) 1 1 [t] rfl rfl ((hR.out.2.1.mod (hW.out.trans hm1.out (by simp)) (by simp)).alloc _) (Rd.box _ _ _ _) (by simp only [maxLen]; omega) (by omega) ?_; intro v2 w2 h2 g2 a2; obtain ⟨A3, m3, c3, rfl⟩ := h2.form))
        go_roundw
        case rel => exact ⟨k + 1, by omega, by go_num, ⟨_, _, _, rfl⟩, ⟨_, _, _, rfl⟩, hide (hR.out.left_ (hW.out.trans hm1.out (by simp)) hkl hp.out (by rw [← ht.out]; exact h2) g2 a2)⟩
        case measure => simp [intOf]; omega
      · have hp : (hit nx tag) (gi l k) = true := by rw [← ht]; exact hres.symm
        replace hp := hide hp
        replace ht := hide ht
        clear hres
        go_wp2_with (first
          | (refine list_load 26 (.tmp 16) rfl rfl _ Try.underlying26 rfl (ad.add (k * 4)) [.int .i64 t.nx, .int .u32 t.tag, .int .u8 t.at_, .bool t.st] size26 rfl hc4.out ?_)
          | (go_at_call 31; (with_reducible refine hcall.out.mono ?_); rintro e w1 ⟨rfl, hm1⟩; have hbc := hide (box_cells (cs := [.int .i64 t.nx, .int .u32 t.tag, .int .u8 t.at_, .bool t.st]) hm1); replace hm1 := hide hm1)
          | (refine list_load 26 (.tmp 8) rfl rfl _ Try.underlying26 rfl ⟨wr.heap.size, 0, none⟩ [.int .i64 t.nx, .int .u32 t.tag, .int .u8 t.at_, .bool t.st] size26 rfl (by first | exact hbc.out | exact hb0.out) ?_)
          | (at_builtin; refine list_app (.tmp 21) (.tmp 23) 30 26 _ 4 16 enc rfl rfl enc_len enc_one Try.underlying30 elem26 (.slice A1 m1 c1) ((l.take k).filter (hit nx tag)) (some ⟨w1.heap.size, 0, none⟩) 1 1 [t] rfl rfl ((hR.out.1.mod (hW.out.trans hm1.out (by simp)) (by simp)).alloc _) (Rd.box _ _ _ _) (by simp only [maxLen]; omega) (by omega) ?_; intro v2 w2 h2 g2 a2; obtain ⟨A3, m3, c3, rfl⟩ := h2.form))
        go_roundw
        case rel => exact ⟨k + 1, by omega, by go_num, ⟨_, _, _, rfl⟩, ⟨_, _, _, rfl⟩, hide (hR.out.out_ (hW.out.trans hm1.out (by simp)) hkl hp.out (by rw [← ht.out]; exact h2) g2 a2)⟩
        case measure => simp [intOf]; omega
    · obtain rfl : k = len := by omega
      have hcr := hR.out.2.2.1.cell hc (by simp)
      have hfr := (hR.out.2.2.1.frozen (p := ⟨b, 0, none⟩) hblt (by simp)).trans hfz
      go_wp2_with fail
      go_ret
      have hd := hR.out
      rw [hlen.out] at hd
      exact ⟨_, rfl, hd.done hs.out⟩

set_option maxRecDepth 100000 in
set_option maxHeartbeats 2000000 in
theorem drop40 (b : Nat) (l : List T) (aca : Int) (F : Nat → Prop) (w : World) (hl : l.length ≤ 1000) (hs : S w b l aca F) (a a' : Addr) (nx tag : Int) (ha : w.cell? a = some (.int .i64 nx)) (ha' : w.cell? a' = some (.int .u32 tag)) :
    Calls Try.prog 27 #[.pointer (some ⟨b, 0, none⟩), .func (.func 40) #[] #[.pointer (some a), .pointer (some a')]] w fun e w' => ∃ v, e = .returned v ∧ Row w' 26 4 enc v (l.filter (hit nx tag)) ∧ S w' b (l.filter fun t => !(hit nx tag) t) aca (PlusBut F w w' v) ∧ Mod F w w' ∧ ∀ j, v.ownBlock = some j → w.heap.size ≤ j := by
  obtain ⟨A, cap, hc, -, hfz, -, hr, -, -, -⟩ := hs.at_
  have hblt := hs.lt
  obtain ⟨len, hlen⟩ : ∃ len, len = l.length := ⟨_, rfl⟩
  rw [← hlen] at hc hr hl
  replace hlen := hide hlen
  replace hr := hide hr
  replace hs := hide hs
  replace ha := hide ha
  replace ha' := hide ha'
  go_enter Try.func27, Try.ntmps27
  go_wp2_with fail
  go_loopw [5, 6, 14] (fun u v x wr => ∃ k : Nat, k ≤ len ∧ x = .int .i64 k ∧ (∃ A m c, u = .slice A m c) ∧ (∃ A m c, v = .slice A m c) ∧ Hid (DR (hit nx tag) w wr l k u v)) (fun _ _ x _ => len - (intOf x).toNat)
  case atStart => exact ⟨0, by omega, rfl, ⟨_, _, _, rfl⟩, ⟨_, _, _, rfl⟩, hide ⟨Row.nil _ _ _ _, Row.nil _ _ _ _, Mod.refl _ _, by simp [Value.ownBlock], by simp [Value.ownBlock], by simp [Value.ownBlock]⟩⟩
  case round =>
    obtain ⟨k, hk, rfl, ⟨A1, m1, c1, rfl⟩, ⟨A2, m2, c2, rfl⟩, hR⟩ := hrel
    by_cases hlt : k < len
    · have hkl : k < l.length := by rw [← hlen.out]; exact hlt
      have hm0 := hR.out.2.2.1
      obtain ⟨ad, rfl, hc4⟩ := (hr.out.mod hm0 (by simp)).elem k hlt
      obtain ⟨t, ht⟩ : ∃ t, t = gi l k := ⟨_, rfl⟩
      rw [← ht] at hc4
      replace hc4 := hide hc4
      have hW := (Mod.refl (fun _ => False) wr).alloc (.cells #[.int .i64 t.nx, .int .u32 t.tag, .int .u8 t.at_, .bool t.st] 26)
      have hcall : Calls Try.prog 40 #[av t, .pointer (some a), .pointer (some a')] (wr.alloc (.cells #[.int .i64 t.nx, .int .u32 t.tag, .int .u8 t.at_, .bool t.st] 26)) fun e w' => e = .returned (.bool ((hit nx tag) t)) ∧ Mod (fun _ => False) (wr.alloc (.cells #[.int .i64 t.nx, .int .u32 t.tag, .int .u8 t.at_, .bool t.st] 26)) w' := fn40 _ _ _ _ _ _ ((hm0.trans hW (by simp)).cell ha.out (by simp)) ((hm0.trans hW (by simp)).cell ha'.out (by simp))
      have hb0 : ∀ j u, ([.int .i64 t.nx, .int .u32 t.tag, .int .u8 t.at_, .bool t.st] : List Value)[j]? = some u → (wr.alloc (.cells #[.int .i64 t.nx, .int .u32 t.tag, .int .u8 t.at_, .bool t.st] 26)).cell? ((⟨wr.heap.size, 0, none⟩ : Addr).add j) = some u :=
        box_cells (cs := [.int .i64 t.nx, .int .u32 t.tag, .int .u8 t.at_, .bool t.st]) (Mod.refl _ _)
      obtain ⟨r, hres⟩ : ∃ r, r = (hit nx tag) t := ⟨_, rfl⟩
      rw [← hres] at hcall
      replace hcall := hide hcall
      replace hW := hide hW
      replace hb0 := hide hb0
      clear hm0
      have l1 := filter_len (hit nx tag) l k
      have l2 := filter_len (fun t => !(hit nx tag) t) l k
      have l3 : l.length ≤ 1000 := by rw [← hlen.out]; exact hl
      cases r
      · have hp : (hit nx tag) (gi l k) = false := by rw [← ht]; exact hres.symm
        replace hp := hide hp
        replace ht := hide ht
        clear hres
        go_wp2_with (first
          | (refine list_load 26 (.tmp 16) rfl rfl _ Try.underlying26 rfl (ad.add (k * 4)) [.int .i64 t.nx, .int .u32 t.tag, .int .u8 t.at_, .bool t.st] size26 rfl hc4.out ?_)
          | (go_at_call 40; (with_reducible refine hcall.out.mono ?_); rintro e w1 ⟨rfl, hm1⟩; have hbc := hide (box_cells (cs := [.int .i64 t.nx, .int .u32 t.tag, .int .u8 t.at_, .bool t.st]) hm1); replace hm1 := hide hm1)
          | (refine list_load 26 (.tmp 8) rfl rfl _ Try.underlying26 rfl ⟨wr.heap.size, 0, none⟩ [.int .i64 t.nx, .int .u32 t.tag, .int .u8 t.at_, .bool t.st] size26 rfl (by first | exact hbc.out | exact hb0.out) ?_)
          | (at_builtin; refine list_app (.tmp 25) (.tmp 27) 30 26 _ 4 16 enc rfl rfl enc_len enc_one Try.underlying30 elem26 (.slice A2 m2 c2) ((l.take k).filter fun t => !(hit nx tag) t) (some ⟨w1.heap.size, 0, none⟩) 1 1 [t] rfl rfl ((hR.out.2.1.mod (hW.out.trans hm1.out (by simp)) (by simp)).alloc _) (Rd.box _ _ _ _) (by simp only [maxLen]; omega) (by omega) ?_; intro v2 w2 h2 g2 a2; obtain ⟨A3, m3, c3, rfl⟩ := h2.form))
        go_roundw
        case rel => exact ⟨k + 1, by omega, by go_num, ⟨_, _, _, rfl⟩, ⟨_, _, _, rfl⟩, hide (hR.out.left_ (hW.out.trans hm1.out (by simp)) hkl hp.out (by rw [← ht.out]; exact h2) g2 a2)⟩
        case measure => simp [intOf]; omega
      · have hp : (hit nx tag) (gi l k) = true := by rw [← ht]; exact hres.symm
        replace hp := hide hp
        replace ht := hide ht
        clear hres
        go_wp2_with (first
          | (refine list_load 26 (.tmp 16) rfl rfl _ Try.underlying26 rfl (ad.add (k * 4)) [.int .i64 t.nx, .int .u32 t.tag, .int .u8 t.at_, .bool t.st] size26 rfl hc4.out ?_)
          | (go_at_call 40; (with_reducible refine hcall.out.mono ?_); rintro e w1 ⟨rfl, hm1⟩; have hbc := hide (box_cells (cs := [.int .i64 t.nx, .int .u32 t.tag, .int .u8 t.at_, .bool t.st]) hm1); replace hm1 := hide hm1)
          | (refine list_load 26 (.tmp 8) rfl rfl _ Try.underlying26 rfl ⟨wr.heap.size, 0, none⟩ [.int .i64 t.nx, .int .u32 t.tag, .int .u8 t.at_, .bool t.st] size26 rfl (by first | exact hbc.out | exact hb0.out) ?_)
          | (at_builtin; refine list_app (.tmp 21) (.tmp 23) 30 26 _ 4 16 enc rfl rfl enc_len enc_one Try.underlying30 elem26 (.slice A1 m1 c1) ((l.take k).filter (hit nx tag)) (some ⟨w1.heap.size, 0, none⟩) 1 1 [t] rfl rfl ((hR.out.1.mod (hW.out.trans hm1.out (by simp)) (by simp)).alloc _) (Rd.box _ _ _ _) (by simp only [maxLen]; omega) (by omega) ?_; intro v2 w2 h2 g2 a2; obtain ⟨A3, m3, c3, rfl⟩ := h2.form))
        go_roundw
        case rel => exact ⟨k + 1, by omega, by go_num, ⟨_, _, _, rfl⟩, ⟨_, _, _, rfl⟩, hide (hR.out.out_ (hW.out.trans hm1.out (by simp)) hkl hp.out (by rw [← ht.out]; exact h2) g2 a2)⟩
        case measure => simp [intOf]; omega
    · obtain rfl : k = len := by omega
      have hcr := hR.out.2.2.1.cell hc (by simp)
      have hfr := (hR.out.2.2.1.frozen (p := ⟨b, 0, none⟩) hblt (by simp)).trans hfz
      go_wp2_with fail
      go_ret
      have hd := hR.out
      rw [hlen.out] at hd
      exact ⟨_, rfl, hd.done hs.out⟩
end Go.Proofs.Ytabkplmpkdbchaa
