/-
  The walks of the document's Start, End and Enter. Conditions: a set of at most a thousand tasks (Enter: sixteen) in memory of its own.
-/
import Derived.Test.YtabkplmpkdbchaaRDrop
namespace Go.Proofs.Ytabkplmpkdbchaa
open Go.RowKit

set_option maxHeartbeats 1000000 in
theorem rstart_some (b : Nat) (nx tag : Int) (l : List T) (aca : Int) (F : Nat → Prop) (w : World) (hl : l.length ≤ 1000) (hs : RS w b l aca F) :
    Calls Try.prog 34 #[.pointer (some ⟨b, 0, none⟩), .int .i64 nx, .int .u32 tag] w fun e w' => e = .returned (.int .i64 (sta l aca nx tag).1) ∧ RS w' b (sta l aca nx tag).2 aca (Plus F w w') ∧ Mod F w w' := by
  have hf := rfind_some b nx tag l aca F w hl hs
  rcases fnd_cases l nx tag with ⟨k, hk, hfk, -, -⟩ | ⟨hfk, -⟩
  · rw [hfk] at hf
    have hneg : ¬ fnd l nx tag < 0 := by omega
    have hto : (fnd l nx tag).toNat = k := by omega
    rw [sta, if_neg hneg, hto]
    clear hneg hto hfk
    have hmay := rmay_some b k l aca F w hl hk hs
    obtain ⟨r, hres⟩ : ∃ r, r = mayB l aca k := ⟨_, rfl⟩
    rw [← hres] at hmay ⊢
    clear hres
    obtain ⟨A, cap, hc, -, hz, -, -, hrow, -, -⟩ := hs.at_
    obtain ⟨g, c0, hv, -⟩ := hrow.some_ (by omega)
    obtain rfl : A = some ⟨g, 0, none⟩ := by injection hv
    clear hv c0
    replace hrow := hide hrow
    replace hf := hide hf
    replace hmay := hide hmay
    replace hs := hide hs
    cases r
    · rw [if_neg (by decide)]
      go_enter Try.func34, Try.ntmps34
      go_wp2_with (first
        | (go_at_call 39; (with_reducible refine hf.out.mono ?_); rintro e w1 ⟨rfl, rfl⟩)
        | (go_at_call 38; (with_reducible refine hmay.out.mono ?_); rintro e w2 ⟨rfl, m2⟩))
      go_ret
      exact ⟨rfl, hs.out.plus m2⟩
    · rw [if_pos rfl]
      go_enter Try.func34, Try.ntmps34
      go_wp2_with (first
        | (go_at_call 39; (with_reducible refine hf.out.mono ?_); rintro e w1 ⟨rfl, rfl⟩)
        | (go_at_call 38; (with_reducible refine hmay.out.mono ?_); rintro e w2 ⟨rfl, m2⟩; have m12 := hide m2; obtain ⟨hc2, hs2, hz2⟩ := rmark_facts m12.out hc hrow.out k hk; replace m2 := hide m2))
      go_ret
      obtain ⟨q1, q2⟩ := (hs.out.mod m12.out (by simp)).mark hc2 k hk true
      exact ⟨rfl, q1.mono fun _ hk => .inl hk, (m12.out.mono (by simp)).trans q2 fun _ _ h => h⟩
  · rw [hfk] at hf
    rw [sta, if_pos (by omega)]
    clear hfk
    replace hf := hide hf
    replace hs := hide hs
    go_enter Try.func34, Try.ntmps34
    go_wp2_with (go_at_call 39; (with_reducible refine hf.out.mono ?_); rintro e w1 ⟨rfl, rfl⟩)
    go_ret
    exact ⟨rfl, hs.out.plus (Mod.refl _ _)⟩

set_option maxHeartbeats 1000000 in
theorem rend_some (b : Nat) (nx tag : Int) (l : List T) (aca : Int) (F : Nat → Prop) (w : World) (hl : l.length ≤ 1000) (hs : RS w b l aca F) :
    Calls Try.prog 35 #[.pointer (some ⟨b, 0, none⟩), .int .i64 nx, .int .u32 tag] w fun e w' => e = .returned (.int .i64 (fin l nx tag).1) ∧ RS w' b (fin l nx tag).2 aca (Plus F w w') ∧ Mod F w w' := by
  have hf := rfind_some b nx tag l aca F w hl hs
  rcases fnd_cases l nx tag with ⟨k, hk, hfk, -, -⟩ | ⟨hfk, -⟩
  · rw [hfk] at hf
    have hneg : ¬ fnd l nx tag < 0 := by omega
    have hto : (fnd l nx tag).toNat = k := by omega
    rw [fin, if_neg hneg, hto]
    clear hneg hto hfk
    have hd := rdrop0 b nx tag l aca F w hl hs
    obtain ⟨A, cap, hc, -, hz, -, -, hrow, -, -⟩ := hs.at_
    obtain ⟨g, c2, hv, -⟩ := hrow.some_ (by omega)
    obtain rfl : A = some ⟨g, 0, none⟩ := by injection hv
    clear hv c2
    obtain ⟨r, hres⟩ : ∃ r, r = (gi l k).st := ⟨_, rfl⟩
    obtain ⟨q1, q2, -⟩ := rmark_facts (Mod.refl _ w) hc hrow k hk
    rw [← hres] at q2
    rw [← hres]
    clear hres q1
    replace hrow := hide hrow
    replace hf := hide hf
    replace hd := hide hd
    replace hs := hide hs
    cases r
    · rw [if_neg (by decide)]
      go_enter Try.func35, Try.ntmps35
      go_wp2_with (first
        | (go_at_call 39; (with_reducible refine hf.out.mono ?_); rintro e w1 ⟨rfl, rfl⟩))
      go_ret
      exact ⟨rfl, hs.out.plus (Mod.refl _ _)⟩
    · rw [if_pos rfl]
      go_enter Try.func35, Try.ntmps35
      go_wp2_with (first
        | (go_at_call 39; (with_reducible refine hf.out.mono ?_); rintro e w1 ⟨rfl, rfl⟩)
        | (go_at_call 37; (with_reducible refine hd.out.mono ?_); rintro e w2 ⟨v, rfl, -, h1, h2, -⟩))
      go_ret
      exact ⟨rfl, h1.mono fun j hj => by
        rcases hj with hj | ⟨hj, hj2, _⟩
        · exact .inl hj
        · exact .inr ⟨hj, hj2⟩, h2⟩
  · rw [hfk] at hf
    rw [fin, if_pos (by omega)]
    clear hfk
    replace hf := hide hf
    replace hs := hide hs
    go_enter Try.func35, Try.ntmps35
    go_wp2_with (go_at_call 39; (with_reducible refine hf.out.mono ?_); rintro e w1 ⟨rfl, rfl⟩)
    go_ret
    exact ⟨rfl, hs.out.plus (Mod.refl _ _)⟩

/-- A task as an argument of the document's. -/
abbrev avR (t : T) : Value := .agg #[.int .i64 t.nx, .int .u32 t.tag, .int .i64 t.at_, .bool t.st]

set_option maxRecDepth 100000 in
set_option maxHeartbeats 2000000 in
theorem renter_neg (b : Nat) (t : T) (l : List T) (aca : Int) (F : Nat → Prop) (w : World) (hl : l.length ≤ 16) (hs : RS w b l aca F) (h : t.nx < 0) :
    Calls Try.prog 33 #[.pointer (some ⟨b, 0, none⟩), avR t] w fun e w' => e = .returned (.tuple #[.int .i64 0, .int .i64 1]) ∧ RS w' b (l) aca (Plus F w w') ∧ Mod F w w' := by
  obtain ⟨A, cap, hc, ha, hfz, -, hr, hrow, hown, hFb⟩ := hs.at_
  have hblt := hs.lt
  obtain ⟨nx, tag, at_, st⟩ := t
  dsimp only at *
  have hm : Mod (fun _ => False) w (w.alloc (.cells #[.int .i64 nx, .int .u32 tag, .int .i64 at_, .bool st] 67)) := (Mod.refl _ w).alloc _
  have hfind := rfind_some b nx tag l aca F _ (by omega) (hs.mod hm (by simp))
  have hbh : (w.alloc (.cells #[.int .i64 nx, .int .u32 tag, .int .i64 at_, .bool st] 67)).heap[w.heap.size]? = some (.cells #[.int .i64 nx, .int .u32 tag, .int .i64 at_, .bool st] 67) := heap_alloc_new _ _
  have hc1 := hm.cell hc (by simp)
  have ha1 := hm.cell ha (by simp)
  have d1 : decide (nx < 0) = true := by simp; omega

  have hcw := hide hc
  have hzw := hide hfz
  replace hs := hide hs
  replace hr := hide hr
  replace hrow := hide hrow
  replace hown := hide hown
  replace hm := hide hm
  replace hfind := hide hfind
  replace hbh := hide hbh
  go_enter Try.func33, Try.ntmps33
  go_wp2_with fail
  go_ret2
  exact ⟨rfl, hs.out.plus hm.out⟩

set_option maxRecDepth 100000 in
set_option maxHeartbeats 2000000 in
theorem renter_big (b : Nat) (t : T) (l : List T) (aca : Int) (F : Nat → Prop) (w : World) (hl : l.length ≤ 16) (hs : RS w b l aca F) (h0 : 0 ≤ t.nx) (h : 8 ≤ t.nx) :
    Calls Try.prog 33 #[.pointer (some ⟨b, 0, none⟩), avR t] w fun e w' => e = .returned (.tuple #[.int .i64 0, .int .i64 1]) ∧ RS w' b (l) aca (Plus F w w') ∧ Mod F w w' := by
  obtain ⟨A, cap, hc, ha, hfz, -, hr, hrow, hown, hFb⟩ := hs.at_
  have hblt := hs.lt
  obtain ⟨nx, tag, at_, st⟩ := t
  dsimp only at *
  have hm : Mod (fun _ => False) w (w.alloc (.cells #[.int .i64 nx, .int .u32 tag, .int .i64 at_, .bool st] 67)) := (Mod.refl _ w).alloc _
  have hfind := rfind_some b nx tag l aca F _ (by omega) (hs.mod hm (by simp))
  have hbh : (w.alloc (.cells #[.int .i64 nx, .int .u32 tag, .int .i64 at_, .bool st] 67)).heap[w.heap.size]? = some (.cells #[.int .i64 nx, .int .u32 tag, .int .i64 at_, .bool st] 67) := heap_alloc_new _ _
  have hc1 := hm.cell hc (by simp)
  have ha1 := hm.cell ha (by simp)
  have d1 : decide (nx < 0) = false := by simp; omega
  have d2 : decide (7 < nx) = true := by simp; omega

  have hcw := hide hc
  have hzw := hide hfz
  replace hs := hide hs
  replace hr := hide hr
  replace hrow := hide hrow
  replace hown := hide hown
  replace hm := hide hm
  replace hfind := hide hfind
  replace hbh := hide hbh
  go_enter Try.func33, Try.ntmps33
  go_wp2_with fail
  go_ret2
  exact ⟨rfl, hs.out.plus hm.out⟩

set_option maxRecDepth 100000 in
set_option maxHeartbeats 2000000 in
theorem renter_attr (b : Nat) (t : T) (l : List T) (aca : Int) (F : Nat → Prop) (w : World) (hl : l.length ≤ 16) (hs : RS w b l aca F) (h0 : 0 ≤ t.nx) (h8 : t.nx < 8) (h : 3 < t.at_) :
    Calls Try.prog 33 #[.pointer (some ⟨b, 0, none⟩), avR t] w fun e w' => e = .returned (.tuple #[.int .i64 0, .int .i64 1]) ∧ RS w' b (l) aca (Plus F w w') ∧ Mod F w w' := by
  obtain ⟨A, cap, hc, ha, hfz, -, hr, hrow, hown, hFb⟩ := hs.at_
  have hblt := hs.lt
  obtain ⟨nx, tag, at_, st⟩ := t
  dsimp only at *
  have hm : Mod (fun _ => False) w (w.alloc (.cells #[.int .i64 nx, .int .u32 tag, .int .i64 at_, .bool st] 67)) := (Mod.refl _ w).alloc _
  have hfind := rfind_some b nx tag l aca F _ (by omega) (hs.mod hm (by simp))
  have hbh : (w.alloc (.cells #[.int .i64 nx, .int .u32 tag, .int .i64 at_, .bool st] 67)).heap[w.heap.size]? = some (.cells #[.int .i64 nx, .int .u32 tag, .int .i64 at_, .bool st] 67) := heap_alloc_new _ _
  have hc1 := hm.cell hc (by simp)
  have ha1 := hm.cell ha (by simp)
  have d1 : decide (nx < 0) = false := by simp; omega
  have d2 : decide (7 < nx) = false := by simp; omega
  have d3 : decide (3 < at_) = true := by simp; omega

  have hcw := hide hc
  have hzw := hide hfz
  replace hs := hide hs
  replace hr := hide hr
  replace hrow := hide hrow
  replace hown := hide hown
  replace hm := hide hm
  replace hfind := hide hfind
  replace hbh := hide hbh
  go_enter Try.func33, Try.ntmps33
  go_wp2_with fail
  go_ret2
  exact ⟨rfl, hs.out.plus hm.out⟩

set_option maxRecDepth 100000 in
set_option maxHeartbeats 2000000 in
theorem renter_dup (b : Nat) (t : T) (l : List T) (aca : Int) (F : Nat → Prop) (w : World) (hl : l.length ≤ 16) (hs : RS w b l aca F) (h0 : 0 ≤ t.nx) (h8 : t.nx < 8) (h3 : t.at_ ≤ 3) (hf : 0 ≤ fnd l t.nx t.tag) :
    Calls Try.prog 33 #[.pointer (some ⟨b, 0, none⟩), avR t] w fun e w' => e = .returned (.tuple #[.int .i64 0, .int .i64 9]) ∧ RS w' b (l) aca (Plus F w w') ∧ Mod F w w' := by
  obtain ⟨A, cap, hc, ha, hfz, -, hr, hrow, hown, hFb⟩ := hs.at_
  have hblt := hs.lt
  obtain ⟨nx, tag, at_, st⟩ := t
  dsimp only at *
  have hm : Mod (fun _ => False) w (w.alloc (.cells #[.int .i64 nx, .int .u32 tag, .int .i64 at_, .bool st] 67)) := (Mod.refl _ w).alloc _
  have hfind := rfind_some b nx tag l aca F _ (by omega) (hs.mod hm (by simp))
  have hbh : (w.alloc (.cells #[.int .i64 nx, .int .u32 tag, .int .i64 at_, .bool st] 67)).heap[w.heap.size]? = some (.cells #[.int .i64 nx, .int .u32 tag, .int .i64 at_, .bool st] 67) := heap_alloc_new _ _
  have hc1 := hm.cell hc (by simp)
  have ha1 := hm.cell ha (by simp)
  have d1 : decide (nx < 0) = false := by simp; omega
  have d2 : decide (7 < nx) = false := by simp; omega
  have d3 : decide (3 < at_) = false := by simp; omega
  have d4 : decide (0 ≤ fnd l nx tag) = true := by simpa using hf

  have hcw := hide hc
  have hzw := hide hfz
  replace hs := hide hs
  replace hr := hide hr
  replace hrow := hide hrow
  replace hown := hide hown
  replace hm := hide hm
  replace hfind := hide hfind
  replace hbh := hide hbh
  go_enter Try.func33, Try.ntmps33
  go_wp2_with (go_at_call 39; (with_reducible refine hfind.out.mono ?_); rintro e w1 ⟨rfl, rfl⟩)
  go_ret2
  exact ⟨rfl, hs.out.plus hm.out⟩

set_option maxRecDepth 100000 in
set_option maxHeartbeats 2000000 in
theorem renter_bar2 (b : Nat) (t : T) (l : List T) (aca : Int) (F : Nat → Prop) (w : World) (hl : l.length ≤ 16) (hs : RS w b l aca F) (h0 : 0 ≤ t.nx) (h8 : t.nx < 8) (h3 : t.at_ ≤ 3) (hf : fnd l t.nx t.tag < 0) (hb1 : 0 ≤ aca) (hb3 : t.at_ ≠ 3) :
    Calls Try.prog 33 #[.pointer (some ⟨b, 0, none⟩), avR t] w fun e w' => e = .returned (.tuple #[.int .i64 48, .int .i64 0]) ∧ RS w' b (l) aca (Plus F w w') ∧ Mod F w w' := by
  obtain ⟨A, cap, hc, ha, hfz, -, hr, hrow, hown, hFb⟩ := hs.at_
  have hblt := hs.lt
  obtain ⟨nx, tag, at_, st⟩ := t
  dsimp only at *
  have hm : Mod (fun _ => False) w (w.alloc (.cells #[.int .i64 nx, .int .u32 tag, .int .i64 at_, .bool st] 67)) := (Mod.refl _ w).alloc _
  have hfind := rfind_some b nx tag l aca F _ (by omega) (hs.mod hm (by simp))
  have hbh : (w.alloc (.cells #[.int .i64 nx, .int .u32 tag, .int .i64 at_, .bool st] 67)).heap[w.heap.size]? = some (.cells #[.int .i64 nx, .int .u32 tag, .int .i64 at_, .bool st] 67) := heap_alloc_new _ _
  have hc1 := hm.cell hc (by simp)
  have ha1 := hm.cell ha (by simp)
  have d1 : decide (nx < 0) = false := by simp; omega
  have d2 : decide (7 < nx) = false := by simp; omega
  have d3 : decide (3 < at_) = false := by simp; omega
  have d4 : decide (0 ≤ fnd l nx tag) = false := by simp; omega
  clear hf
  have d5 : decide (0 ≤ aca) = true := by simp; omega
  have d7 : (at_ != 3) = true := by simpa using hb3
  clear hb3

  have hcw := hide hc
  have hzw := hide hfz
  replace hs := hide hs
  replace hr := hide hr
  replace hrow := hide hrow
  replace hown := hide hown
  replace hm := hide hm
  replace hfind := hide hfind
  replace hbh := hide hbh
  go_enter Try.func33, Try.ntmps33
  go_wp2_with (go_at_call 39; (with_reducible refine hfind.out.mono ?_); rintro e w1 ⟨rfl, rfl⟩)
  go_quiet (fail)
  go_wp2_with fail
  go_ret2
  exact ⟨rfl, hs.out.plus (hm.out.drewN _)⟩

set_option maxRecDepth 100000 in
set_option maxHeartbeats 2000000 in
theorem renter_bar1 (b : Nat) (t : T) (l : List T) (aca : Int) (F : Nat → Prop) (w : World) (hl : l.length ≤ 16) (hs : RS w b l aca F) (h0 : 0 ≤ t.nx) (h8 : t.nx < 8) (h3 : t.at_ ≤ 3) (hf : fnd l t.nx t.tag < 0) (hb1 : 0 ≤ aca) (hb2 : t.nx ≠ aca) (hb3 : t.at_ = 3) :
    Calls Try.prog 33 #[.pointer (some ⟨b, 0, none⟩), avR t] w fun e w' => e = .returned (.tuple #[.int .i64 48, .int .i64 0]) ∧ RS w' b (l) aca (Plus F w w') ∧ Mod F w w' := by
  obtain ⟨A, cap, hc, ha, hfz, -, hr, hrow, hown, hFb⟩ := hs.at_
  have hblt := hs.lt
  obtain ⟨nx, tag, at_, st⟩ := t
  dsimp only at *
  have hm : Mod (fun _ => False) w (w.alloc (.cells #[.int .i64 nx, .int .u32 tag, .int .i64 at_, .bool st] 67)) := (Mod.refl _ w).alloc _
  have hfind := rfind_some b nx tag l aca F _ (by omega) (hs.mod hm (by simp))
  have hbh : (w.alloc (.cells #[.int .i64 nx, .int .u32 tag, .int .i64 at_, .bool st] 67)).heap[w.heap.size]? = some (.cells #[.int .i64 nx, .int .u32 tag, .int .i64 at_, .bool st] 67) := heap_alloc_new _ _
  have hc1 := hm.cell hc (by simp)
  have ha1 := hm.cell ha (by simp)
  have d1 : decide (nx < 0) = false := by simp; omega
  have d2 : decide (7 < nx) = false := by simp; omega
  have d3 : decide (3 < at_) = false := by simp; omega
  have d4 : decide (0 ≤ fnd l nx tag) = false := by simp; omega
  clear hf
  have d5 : decide (0 ≤ aca) = true := by simp; omega
  have d7 : (at_ != 3) = false := by simpa using hb3
  have d6 : (nx != aca) = true := by simpa using hb2
  clear hb2 hb3

  have hcw := hide hc
  have hzw := hide hfz
  replace hs := hide hs
  replace hr := hide hr
  replace hrow := hide hrow
  replace hown := hide hown
  replace hm := hide hm
  replace hfind := hide hfind
  replace hbh := hide hbh
  go_enter Try.func33, Try.ntmps33
  go_wp2_with (go_at_call 39; (with_reducible refine hfind.out.mono ?_); rintro e w1 ⟨rfl, rfl⟩)
  go_quiet (fail)
  go_wp2_with fail
  go_ret2
  exact ⟨rfl, hs.out.plus (hm.out.drewN _)⟩

set_option maxRecDepth 100000 in
set_option maxHeartbeats 2000000 in
theorem renter_bar3 (b : Nat) (t : T) (l : List T) (aca : Int) (F : Nat → Prop) (w : World) (hl : l.length ≤ 16) (hs : RS w b l aca F) (h0 : 0 ≤ t.nx) (h8 : t.nx < 8) (h3 : t.at_ ≤ 3) (hf : fnd l t.nx t.tag < 0) (hb1 : aca < 0) (hb3 : t.at_ = 3) :
    Calls Try.prog 33 #[.pointer (some ⟨b, 0, none⟩), avR t] w fun e w' => e = .returned (.tuple #[.int .i64 48, .int .i64 0]) ∧ RS w' b (l) aca (Plus F w w') ∧ Mod F w w' := by
  obtain ⟨A, cap, hc, ha, hfz, -, hr, hrow, hown, hFb⟩ := hs.at_
  have hblt := hs.lt
  obtain ⟨nx, tag, at_, st⟩ := t
  dsimp only at *
  have hm : Mod (fun _ => False) w (w.alloc (.cells #[.int .i64 nx, .int .u32 tag, .int .i64 at_, .bool st] 67)) := (Mod.refl _ w).alloc _
  have hfind := rfind_some b nx tag l aca F _ (by omega) (hs.mod hm (by simp))
  have hbh : (w.alloc (.cells #[.int .i64 nx, .int .u32 tag, .int .i64 at_, .bool st] 67)).heap[w.heap.size]? = some (.cells #[.int .i64 nx, .int .u32 tag, .int .i64 at_, .bool st] 67) := heap_alloc_new _ _
  have hc1 := hm.cell hc (by simp)
  have ha1 := hm.cell ha (by simp)
  have d1 : decide (nx < 0) = false := by simp; omega
  have d2 : decide (7 < nx) = false := by simp; omega
  have d3 : decide (3 < at_) = false := by simp; omega
  have d4 : decide (0 ≤ fnd l nx tag) = false := by simp; omega
  clear hf
  have d5 : decide (0 ≤ aca) = false := by simp; omega
  have d7 : (at_ == 3) = true := by simpa using hb3
  clear hb3

  have hcw := hide hc
  have hzw := hide hfz
  replace hs := hide hs
  replace hr := hide hr
  replace hrow := hide hrow
  replace hown := hide hown
  replace hm := hide hm
  replace hfind := hide hfind
  replace hbh := hide hbh
  go_enter Try.func33, Try.ntmps33
  go_wp2_with (go_at_call 39; (with_reducible refine hfind.out.mono ?_); rintro e w1 ⟨rfl, rfl⟩)
  go_ret2
  exact ⟨rfl, hs.out.plus hm.out⟩

set_option maxRecDepth 100000 in
set_option maxHeartbeats 2000000 in
theorem renter_full1 (b : Nat) (t : T) (l : List T) (aca : Int) (F : Nat → Prop) (w : World) (hl : l.length ≤ 16) (hs : RS w b l aca F) (h0 : 0 ≤ t.nx) (h8 : t.nx < 8) (h3 : t.at_ ≤ 3) (hf : fnd l t.nx t.tag < 0) (hb1 : 0 ≤ aca) (hb2 : t.nx = aca) (hb3 : t.at_ = 3) (hlen : 16 ≤ l.length) :
    Calls Try.prog 33 #[.pointer (some ⟨b, 0, none⟩), avR t] w fun e w' => e = .returned (.tuple #[.int .i64 40, .int .i64 0]) ∧ RS w' b (l) aca (Plus F w w') ∧ Mod F w w' := by
  obtain ⟨A, cap, hc, ha, hfz, -, hr, hrow, hown, hFb⟩ := hs.at_
  have hblt := hs.lt
  obtain ⟨nx, tag, at_, st⟩ := t
  dsimp only at *
  have hm : Mod (fun _ => False) w (w.alloc (.cells #[.int .i64 nx, .int .u32 tag, .int .i64 at_, .bool st] 67)) := (Mod.refl _ w).alloc _
  have hfind := rfind_some b nx tag l aca F _ (by omega) (hs.mod hm (by simp))
  have hbh : (w.alloc (.cells #[.int .i64 nx, .int .u32 tag, .int .i64 at_, .bool st] 67)).heap[w.heap.size]? = some (.cells #[.int .i64 nx, .int .u32 tag, .int .i64 at_, .bool st] 67) := heap_alloc_new _ _
  have hc1 := hm.cell hc (by simp)
  have ha1 := hm.cell ha (by simp)
  have d1 : decide (nx < 0) = false := by simp; omega
  have d2 : decide (7 < nx) = false := by simp; omega
  have d3 : decide (3 < at_) = false := by simp; omega
  have d4 : decide (0 ≤ fnd l nx tag) = false := by simp; omega
  clear hf
  have d5 : decide (0 ≤ aca) = true := by simp; omega
  have d7 : (at_ != 3) = false := by simpa using hb3
  have d6 : (nx != aca) = false := by simpa using hb2
  clear hb2 hb3

  have hcw := hide hc
  have hzw := hide hfz
  replace hs := hide hs
  replace hr := hide hr
  replace hrow := hide hrow
  replace hown := hide hown
  replace hm := hide hm
  replace hfind := hide hfind
  replace hbh := hide hbh
  go_enter Try.func33, Try.ntmps33
  go_wp2_with (go_at_call 39; (with_reducible refine hfind.out.mono ?_); rintro e w1 ⟨rfl, rfl⟩)
  go_quiet (fail)
  go_wp2_with fail
  go_ret2
  exact ⟨rfl, hs.out.plus (hm.out.drewN _)⟩

set_option maxRecDepth 100000 in
set_option maxHeartbeats 2000000 in
theorem renter_full2 (b : Nat) (t : T) (l : List T) (aca : Int) (F : Nat → Prop) (w : World) (hl : l.length ≤ 16) (hs : RS w b l aca F) (h0 : 0 ≤ t.nx) (h8 : t.nx < 8) (h3 : t.at_ ≤ 3) (hf : fnd l t.nx t.tag < 0) (hb1 : aca < 0) (hb3 : t.at_ ≠ 3) (hlen : 16 ≤ l.length) :
    Calls Try.prog 33 #[.pointer (some ⟨b, 0, none⟩), avR t] w fun e w' => e = .returned (.tuple #[.int .i64 40, .int .i64 0]) ∧ RS w' b (l) aca (Plus F w w') ∧ Mod F w w' := by
  obtain ⟨A, cap, hc, ha, hfz, -, hr, hrow, hown, hFb⟩ := hs.at_
  have hblt := hs.lt
  obtain ⟨nx, tag, at_, st⟩ := t
  dsimp only at *
  have hm : Mod (fun _ => False) w (w.alloc (.cells #[.int .i64 nx, .int .u32 tag, .int .i64 at_, .bool st] 67)) := (Mod.refl _ w).alloc _
  have hfind := rfind_some b nx tag l aca F _ (by omega) (hs.mod hm (by simp))
  have hbh : (w.alloc (.cells #[.int .i64 nx, .int .u32 tag, .int .i64 at_, .bool st] 67)).heap[w.heap.size]? = some (.cells #[.int .i64 nx, .int .u32 tag, .int .i64 at_, .bool st] 67) := heap_alloc_new _ _
  have hc1 := hm.cell hc (by simp)
  have ha1 := hm.cell ha (by simp)
  have d1 : decide (nx < 0) = false := by simp; omega
  have d2 : decide (7 < nx) = false := by simp; omega
  have d3 : decide (3 < at_) = false := by simp; omega
  have d4 : decide (0 ≤ fnd l nx tag) = false := by simp; omega
  clear hf
  have d5 : decide (0 ≤ aca) = false := by simp; omega
  have d7 : (at_ == 3) = false := by simpa using hb3
  clear hb3

  have hcw := hide hc
  have hzw := hide hfz
  replace hs := hide hs
  replace hr := hide hr
  replace hrow := hide hrow
  replace hown := hide hown
  replace hm := hide hm
  replace hfind := hide hfind
  replace hbh := hide hbh
  go_enter Try.func33, Try.ntmps33
  go_wp2_with (go_at_call 39; (with_reducible refine hfind.out.mono ?_); rintro e w1 ⟨rfl, rfl⟩)
  go_ret2
  exact ⟨rfl, hs.out.plus hm.out⟩

set_option maxRecDepth 100000 in
set_option maxHeartbeats 2000000 in
theorem renter_in1 (b : Nat) (t : T) (l : List T) (aca : Int) (F : Nat → Prop) (w : World) (hl : l.length ≤ 16) (hs : RS w b l aca F) (h0 : 0 ≤ t.nx) (h8 : t.nx < 8) (h3 : t.at_ ≤ 3) (hf : fnd l t.nx t.tag < 0) (hb1 : 0 ≤ aca) (hb2 : t.nx = aca) (hb3 : t.at_ = 3) (hlen : l.length < 16) :
    Calls Try.prog 33 #[.pointer (some ⟨b, 0, none⟩), avR t] w fun e w' => e = .returned (.tuple #[.int .i64 0, .int .i64 0]) ∧ RS w' b (l ++ [{ t with st := false }]) aca (Plus F w w') ∧ Mod F w w' := by
  obtain ⟨A, cap, hc, ha, hfz, -, hr, hrow, hown, hFb⟩ := hs.at_
  have hblt := hs.lt
  obtain ⟨nx, tag, at_, st⟩ := t
  dsimp only at *
  have hm : Mod (fun _ => False) w (w.alloc (.cells #[.int .i64 nx, .int .u32 tag, .int .i64 at_, .bool st] 67)) := (Mod.refl _ w).alloc _
  have hfind := rfind_some b nx tag l aca F _ (by omega) (hs.mod hm (by simp))
  have hbh : (w.alloc (.cells #[.int .i64 nx, .int .u32 tag, .int .i64 at_, .bool st] 67)).heap[w.heap.size]? = some (.cells #[.int .i64 nx, .int .u32 tag, .int .i64 at_, .bool st] 67) := heap_alloc_new _ _
  have hc1 := hm.cell hc (by simp)
  have ha1 := hm.cell ha (by simp)
  have d1 : decide (nx < 0) = false := by simp; omega
  have d2 : decide (7 < nx) = false := by simp; omega
  have d3 : decide (3 < at_) = false := by simp; omega
  have d4 : decide (0 ≤ fnd l nx tag) = false := by simp; omega
  clear hf
  have d5 : decide (0 ≤ aca) = true := by simp; omega
  have d7 : (at_ != 3) = false := by simpa using hb3
  have d6 : (nx != aca) = false := by simpa using hb2
  clear hb2 hb3

  have hcw := hide hc
  have hzw := hide hfz
  replace hs := hide hs
  replace hr := hide hr
  replace hrow := hide hrow
  replace hown := hide hown
  replace hm := hide hm
  replace hfind := hide hfind
  replace hbh := hide hbh
  go_enter Try.func33, Try.ntmps33
  go_wp2_with (go_at_call 39; (with_reducible refine hfind.out.mono ?_); rintro e w1 ⟨rfl, rfl⟩)
  go_quiet (fail)
  go_wp2_with fail
  obtain ⟨k2, k3⟩ := rboxed (Mod.refl _ _) hbh.out nq
  obtain ⟨f0, f1, f2, f3, f4, f5, f6, f7, f8, f9⟩ := rboxed_facts k2 k3 hc hfz hblt hrow.out
  generalize hW : ((w.alloc (.cells #[.int .i64 nx, .int .u32 tag, .int .i64 at_, .bool st] 67)).drewN nq).setCell ⟨w.heap.size, 3, none⟩ (.bool false) = W at *
  clear hW hc1 ha1 ha hfz hc
  replace k2 := hide k2
  replace f9 := hide f9
  go_region_law (first
    | (refine step_app (.tmp 57) (.tmp 59) 53 67 _ 4 32 encR rfl rfl encR_len encR_one Try.underlying53 elem67 (.slice A l.length cap) l (some ⟨W.heap.size, 0, none⟩) 1 1 [{ nx := nx, tag := tag, at_ := at_, st := false }] ?_ ?_ f9.out.1 f9.out.2 ?_ ?_ ?_
       (simp [Act.eval])
       (simp [Act.eval])
       (simp [maxLen]; omega)
       (omega)
       intro v2 w2 h2 g2 a2
       have hg : Mod (fun k => (Value.slice A l.length cap).ownBlock = some k) w w2 := ((k2.out.mono (by simp)).alloc _).drew.grown g2 (fun k hk => .inl hk)
       have hc2 : w2.cell? ⟨b, 0, none⟩ = some (.slice A l.length cap) := hg.cell hcw.out (fun e => (hown.out _ e).2 rfl)
       have hf2 : w2.frozen? ⟨b, 0, none⟩ = false := (hg.frozen (p := ⟨b, 0, none⟩) hblt (fun e => (hown.out _ e).2 rfl)).trans hzw.out
       obtain ⟨A2, n2, cap2, rfl⟩ := h2.form))
  all_goals
    go_wp2_with fail
    go_ret2
    exact ⟨rfl, rentered hs.out hg hcw.out h2 (fun j hj => by
      rcases a2 with e | e <;> rw [e] at hj
      · exact .inl hj
      · have := k2.out.size
        simp at hj
        right; omega)⟩

set_option maxRecDepth 100000 in
set_option maxHeartbeats 2000000 in
theorem renter_in2 (b : Nat) (t : T) (l : List T) (aca : Int) (F : Nat → Prop) (w : World) (hl : l.length ≤ 16) (hs : RS w b l aca F) (h0 : 0 ≤ t.nx) (h8 : t.nx < 8) (h3 : t.at_ ≤ 3) (hf : fnd l t.nx t.tag < 0) (hb1 : aca < 0) (hb3 : t.at_ ≠ 3) (hlen : l.length < 16) :
    Calls Try.prog 33 #[.pointer (some ⟨b, 0, none⟩), avR t] w fun e w' => e = .returned (.tuple #[.int .i64 0, .int .i64 0]) ∧ RS w' b (l ++ [{ t with st := false }]) aca (Plus F w w') ∧ Mod F w w' := by
  obtain ⟨A, cap, hc, ha, hfz, -, hr, hrow, hown, hFb⟩ := hs.at_
  have hblt := hs.lt
  obtain ⟨nx, tag, at_, st⟩ := t
  dsimp only at *
  have hm : Mod (fun _ => False) w (w.alloc (.cells #[.int .i64 nx, .int .u32 tag, .int .i64 at_, .bool st] 67)) := (Mod.refl _ w).alloc _
  have hfind := rfind_some b nx tag l aca F _ (by omega) (hs.mod hm (by simp))
  have hbh : (w.alloc (.cells #[.int .i64 nx, .int .u32 tag, .int .i64 at_, .bool st] 67)).heap[w.heap.size]? = some (.cells #[.int .i64 nx, .int .u32 tag, .int .i64 at_, .bool st] 67) := heap_alloc_new _ _
  have hc1 := hm.cell hc (by simp)
  have ha1 := hm.cell ha (by simp)
  have d1 : decide (nx < 0) = false := by simp; omega
  have d2 : decide (7 < nx) = false := by simp; omega
  have d3 : decide (3 < at_) = false := by simp; omega
  have d4 : decide (0 ≤ fnd l nx tag) = false := by simp; omega
  clear hf
  have d5 : decide (0 ≤ aca) = false := by simp; omega
  have d7 : (at_ == 3) = false := by simpa using hb3
  clear hb3

  have hcw := hide hc
  have hzw := hide hfz
  replace hs := hide hs
  replace hr := hide hr
  replace hrow := hide hrow
  replace hown := hide hown
  replace hm := hide hm
  replace hfind := hide hfind
  replace hbh := hide hbh
  go_enter Try.func33, Try.ntmps33
  go_wp2_with (go_at_call 39; (with_reducible refine hfind.out.mono ?_); rintro e w1 ⟨rfl, rfl⟩)
  obtain ⟨k2, k3⟩ : Mod (fun _ => False) w (w.alloc (.cells #[.int .i64 nx, .int .u32 tag, .int .i64 at_, .bool false] 67)) ∧ (w.alloc (.cells #[.int .i64 nx, .int .u32 tag, .int .i64 at_, .bool false] 67)).heap[w.heap.size]? = some (.cells #[.int .i64 nx, .int .u32 tag, .int .i64 at_, .bool false] 67) := ⟨(Mod.refl _ w).alloc _, heap_alloc_new _ _⟩
  obtain ⟨f0, f1, f2, f3, f4, f5, f6, f7, f8, f9⟩ := rboxed_facts k2 k3 hc hfz hblt hrow.out
  generalize hW : w.alloc (.cells #[.int .i64 nx, .int .u32 tag, .int .i64 at_, .bool false] 67) = W at *
  clear hW hc1 ha1 ha hfz hc
  replace k2 := hide k2
  replace f9 := hide f9
  go_region_law (first
    | (refine step_app (.tmp 57) (.tmp 59) 53 67 _ 4 32 encR rfl rfl encR_len encR_one Try.underlying53 elem67 (.slice A l.length cap) l (some ⟨W.heap.size, 0, none⟩) 1 1 [{ nx := nx, tag := tag, at_ := at_, st := false }] ?_ ?_ f9.out.1 f9.out.2 ?_ ?_ ?_
       (simp [Act.eval])
       (simp [Act.eval])
       (simp [maxLen]; omega)
       (omega)
       intro v2 w2 h2 g2 a2
       have hg : Mod (fun k => (Value.slice A l.length cap).ownBlock = some k) w w2 := ((k2.out.mono (by simp)).alloc _).drew.grown g2 (fun k hk => .inl hk)
       have hc2 : w2.cell? ⟨b, 0, none⟩ = some (.slice A l.length cap) := hg.cell hcw.out (fun e => (hown.out _ e).2 rfl)
       have hf2 : w2.frozen? ⟨b, 0, none⟩ = false := (hg.frozen (p := ⟨b, 0, none⟩) hblt (fun e => (hown.out _ e).2 rfl)).trans hzw.out
       obtain ⟨A2, n2, cap2, rfl⟩ := h2.form))
  all_goals
    go_wp2_with fail
    go_ret2
    exact ⟨rfl, rentered hs.out hg hcw.out h2 (fun j hj => by
      rcases a2 with e | e <;> rw [e] at hj
      · exact .inl hj
      · have := k2.out.size
        simp at hj
        right; omega)⟩

/-- What the document's Enter answers, and what it makes of the tasks: the same. -/
theorem renter_some (b : Nat) (t : T) (l : List T) (aca : Int) (F : Nat → Prop) (w : World) (hl : l.length ≤ 16) (hs : RS w b l aca F) :
    Calls Try.prog 33 #[.pointer (some ⟨b, 0, none⟩), avR t] w fun e w' => e = .returned (.tuple #[.int .i64 (ent l aca t).1, .int .i64 (ent l aca t).2.1]) ∧ RS w' b (ent l aca t).2.2 aca (Plus F w w') ∧ Mod F w w' := by
  by_cases h1 : t.nx < 0 ∨ 8 ≤ t.nx ∨ 3 < t.at_
  · rw [ent, if_pos h1]
    by_cases h0 : t.nx < 0
    · exact renter_neg b t l aca F w hl hs h0
    · by_cases h8 : 8 ≤ t.nx
      · exact renter_big b t l aca F w hl hs (by omega) h8
      · exact renter_attr b t l aca F w hl hs (by omega) (by omega) (by omega)
  · have h0 : 0 ≤ t.nx := by omega
    have h8 : t.nx < 8 := by omega
    have h3 : t.at_ ≤ 3 := by omega
    rw [ent, if_neg h1]
    by_cases h2 : 0 ≤ fnd l t.nx t.tag
    · rw [if_pos h2]; exact renter_dup b t l aca F w hl hs h0 h8 h3 h2
    · rw [if_neg h2]
      have hf : fnd l t.nx t.tag < 0 := by omega
      by_cases ha : 0 ≤ aca
      · by_cases h4 : t.at_ = 3
        · by_cases hn : t.nx = aca
          · have hb : ¬ barred aca t := by
              rintro (⟨_, h | h⟩ | ⟨h, _⟩)
              · exact h hn
              · exact h h4
              · omega
            rw [if_neg hb]
            by_cases h5 : 16 ≤ l.length
            · rw [if_pos h5]; exact renter_full1 b t l aca F w hl hs h0 h8 h3 hf ha hn h4 h5
            · rw [if_neg h5]; exact renter_in1 b t l aca F w hl hs h0 h8 h3 hf ha hn h4 (by omega)
          · rw [if_pos (.inl ⟨ha, .inl hn⟩)]; exact renter_bar1 b t l aca F w hl hs h0 h8 h3 hf ha hn h4
        · rw [if_pos (.inl ⟨ha, .inr h4⟩)]; exact renter_bar2 b t l aca F w hl hs h0 h8 h3 hf ha h4
      · by_cases h4 : t.at_ = 3
        · rw [if_pos (.inr ⟨by omega, h4⟩)]; exact renter_bar3 b t l aca F w hl hs h0 h8 h3 hf (by omega) h4
        · have hb : ¬ barred aca t := by
            rintro (⟨h, _⟩ | ⟨_, h⟩)
            · exact ha h
            · exact h4 h
          rw [if_neg hb]
          by_cases h5 : 16 ≤ l.length
          · rw [if_pos h5]; exact renter_full2 b t l aca F w hl hs h0 h8 h3 hf (by omega) h4 h5
          · rw [if_neg h5]; exact renter_in2 b t l aca F w hl hs h0 h8 h3 hf (by omega) h4 (by omega)
end Go.Proofs.Ytabkplmpkdbchaa
