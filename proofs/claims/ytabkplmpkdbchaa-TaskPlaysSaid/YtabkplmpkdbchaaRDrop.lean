/-
  The walks of the document's Drop, for each of its four kinds. Conditions: a set of at most a thousand tasks in memory of its own.
-/
import Derived.Test.YtabkplmpkdbchaaRFind
namespace Go.Proofs.Ytabkplmpkdbchaa
open Go.RowKit

set_option maxRecDepth 100000 in
set_option maxHeartbeats 4000000 in
theorem rdrop0 (b : Nat) (nx tag : Int) (l : List T) (aca : Int) (F : Nat → Prop) (w : World) (hl : l.length ≤ 1000) (hs : RS w b l aca F) :
    Calls Try.prog 37 #[.pointer (some ⟨b, 0, none⟩), .int .i64 0, .int .i64 nx, .int .u32 tag] w fun e w' => ∃ v, e = .returned v ∧ Row w' 67 4 encR v (l.filter (hit nx tag)) ∧ RS w' b (l.filter fun t => !(hit nx tag) t) aca (PlusBut F w w' v) ∧ Mod F w w' ∧ ∀ j, v.ownBlock = some j → w.heap.size ≤ j := by
  obtain ⟨A, cap, hc, -, hfz, -, hr, -, -, -⟩ := hs.at_
  have hblt := hs.lt
  obtain ⟨len, hlen⟩ : ∃ len, len = l.length := ⟨_, rfl⟩
  rw [← hlen] at hc hr hl
  replace hlen := hide hlen
  replace hr := hide hr
  replace hs := hide hs
  have hcw := hide hc
  clear hc
  go_enter Try.func37, Try.ntmps37
  go_wp2_with fail
  go_loopw [9, 10, 11] (fun u v x wr => ∃ k : Nat, k ≤ len ∧ x = .int .i64 k ∧ (∃ A m c, u = .slice A m c) ∧ (∃ A m c, v = .slice A m c) ∧ Hid (RDR (hit nx tag) w wr l k u v)) (fun _ _ x _ => len - (intOf x).toNat)
  case atStart => exact ⟨0, by omega, rfl, ⟨_, _, _, rfl⟩, ⟨_, _, _, rfl⟩, hide ⟨Row.nil _ _ _ _, Row.nil _ _ _ _, Mod.refl _ _, by simp [Value.ownBlock], by simp [Value.ownBlock], by simp [Value.ownBlock]⟩⟩
  case round =>
    obtain ⟨k, hk, rfl, ⟨A1, m1, c1, rfl⟩, ⟨A2, m2, c2, rfl⟩, hR⟩ := hrel
    have hcr := hR.out.2.2.1.cell hcw.out (by simp)
    by_cases hlt : k < len
    · have hkl : k < l.length := by rw [← hlen.out]; exact hlt
      have hm0 := hR.out.2.2.1
      obtain ⟨ad, rfl, hc4⟩ := (hr.out.mod hm0 (by simp)).relem k hlt
      obtain ⟨t, ht⟩ : ∃ t, t = gi l k := ⟨_, rfl⟩
      rw [← ht] at hc4
      replace hc4 := hide hc4
      have hW := (Mod.refl (fun _ => False) wr).alloc (.cells #[.int .i64 t.nx, .int .u32 t.tag, .int .i64 t.at_, .bool t.st] 67)
      have hb0 : ∀ j u, ([.int .i64 t.nx, .int .u32 t.tag, .int .i64 t.at_, .bool t.st] : List Value)[j]? = some u → (wr.alloc (.cells #[.int .i64 t.nx, .int .u32 t.tag, .int .i64 t.at_, .bool t.st] 67)).cell? ((⟨wr.heap.size, 0, none⟩ : Addr).add j) = some u :=
        box_cells (cs := [.int .i64 t.nx, .int .u32 t.tag, .int .i64 t.at_, .bool t.st]) (Mod.refl _ _)
      replace hW := hide hW
      replace hb0 := hide hb0
      clear hm0
      have l1 := filter_len (hit nx tag) l k
      have l2 := filter_len (fun t => !(hit nx tag) t) l k
      have l3 : l.length ≤ 1000 := by rw [← hlen.out]; exact hl
      by_cases h1 : t.nx = nx
      · have h1b : (t.nx == nx) = true := by simpa using h1
        by_cases h2 : t.tag = tag
        · have h2b : (t.tag == tag) = true := by simpa using h2
          have hp : (hit nx tag) (gi l k) = true := by rw [← ht]; simp [hit, h1, h2]
          replace hp := hide hp
          replace ht := hide ht
          clear h1 h2
          go_wp2_with (first
            | (refine list_load 67 (.tmp 28) rfl rfl _ Try.underlying67 rfl (ad.add (k * 4)) [.int .i64 t.nx, .int .u32 t.tag, .int .i64 t.at_, .bool t.st] size67 rfl hc4.out ?_)
            | (refine list_load 67 (.tmp 12) rfl rfl _ Try.underlying67 rfl ⟨wr.heap.size, 0, none⟩ [.int .i64 t.nx, .int .u32 t.tag, .int .i64 t.at_, .bool t.st] size67 rfl hb0.out ?_)
            | (at_builtin; refine list_app (.tmp 68) (.tmp 70) 53 67 _ 4 32 encR rfl rfl encR_len encR_one Try.underlying53 elem67 (.slice A1 m1 c1) ((l.take k).filter (hit nx tag)) (some ⟨(wr.alloc (.cells #[.int .i64 t.nx, .int .u32 t.tag, .int .i64 t.at_, .bool t.st] 67)).heap.size, 0, none⟩) 1 1 [t] rfl (by simp [Act.eval]) ((hR.out.1.mod hW.out (by simp)).alloc _) (Rd.box _ _ _ _) (by simp only [maxLen]; omega) (by omega) ?_; intro v2 w2 h2 g2 a2; obtain ⟨A3, m3, c3, rfl⟩ := h2.form))
          go_roundw
          case rel => exact ⟨k + 1, by omega, by go_num, ⟨_, _, _, rfl⟩, ⟨_, _, _, rfl⟩, hide (hR.out.out_ hW.out hkl hp.out (by rw [← ht.out]; exact h2) g2 a2)⟩
          case measure => simp [intOf]; omega
        · have h2b : (t.tag == tag) = false := by simpa using h2
          have hp : (hit nx tag) (gi l k) = false := by rw [← ht]; simp [hit, h2]
          replace hp := hide hp
          replace ht := hide ht
          clear h1 h2
          go_wp2_with (first
            | (refine list_load 67 (.tmp 28) rfl rfl _ Try.underlying67 rfl (ad.add (k * 4)) [.int .i64 t.nx, .int .u32 t.tag, .int .i64 t.at_, .bool t.st] size67 rfl hc4.out ?_)
            | (refine list_load 67 (.tmp 12) rfl rfl _ Try.underlying67 rfl ⟨wr.heap.size, 0, none⟩ [.int .i64 t.nx, .int .u32 t.tag, .int .i64 t.at_, .bool t.st] size67 rfl hb0.out ?_)
            | (at_builtin; refine list_app (.tmp 72) (.tmp 74) 53 67 _ 4 32 encR rfl rfl encR_len encR_one Try.underlying53 elem67 (.slice A2 m2 c2) ((l.take k).filter (fun t => !(hit nx tag) t)) (some ⟨(wr.alloc (.cells #[.int .i64 t.nx, .int .u32 t.tag, .int .i64 t.at_, .bool t.st] 67)).heap.size, 0, none⟩) 1 1 [t] rfl (by simp [Act.eval]) ((hR.out.2.1.mod hW.out (by simp)).alloc _) (Rd.box _ _ _ _) (by simp only [maxLen]; omega) (by omega) ?_; intro v2 w2 h2 g2 a2; obtain ⟨A3, m3, c3, rfl⟩ := h2.form))
          go_roundw
          case rel => exact ⟨k + 1, by omega, by go_num, ⟨_, _, _, rfl⟩, ⟨_, _, _, rfl⟩, hide (hR.out.left_ hW.out hkl hp.out (by rw [← ht.out]; exact h2) g2 a2)⟩
          case measure => simp [intOf]; omega
      · have h1b : (t.nx == nx) = false := by simpa using h1
        have hp : (hit nx tag) (gi l k) = false := by rw [← ht]; simp [hit, h1]
        replace hp := hide hp
        replace ht := hide ht
        clear h1
        go_wp2_with (first
          | (refine list_load 67 (.tmp 28) rfl rfl _ Try.underlying67 rfl (ad.add (k * 4)) [.int .i64 t.nx, .int .u32 t.tag, .int .i64 t.at_, .bool t.st] size67 rfl hc4.out ?_)
          | (refine list_load 67 (.tmp 12) rfl rfl _ Try.underlying67 rfl ⟨wr.heap.size, 0, none⟩ [.int .i64 t.nx, .int .u32 t.tag, .int .i64 t.at_, .bool t.st] size67 rfl hb0.out ?_)
          | (at_builtin; refine list_app (.tmp 72) (.tmp 74) 53 67 _ 4 32 encR rfl rfl encR_len encR_one Try.underlying53 elem67 (.slice A2 m2 c2) ((l.take k).filter (fun t => !(hit nx tag) t)) (some ⟨(wr.alloc (.cells #[.int .i64 t.nx, .int .u32 t.tag, .int .i64 t.at_, .bool t.st] 67)).heap.size, 0, none⟩) 1 1 [t] rfl (by simp [Act.eval]) ((hR.out.2.1.mod hW.out (by simp)).alloc _) (Rd.box _ _ _ _) (by simp only [maxLen]; omega) (by omega) ?_; intro v2 w2 h2 g2 a2; obtain ⟨A3, m3, c3, rfl⟩ := h2.form))
        go_roundw
        case rel => exact ⟨k + 1, by omega, by go_num, ⟨_, _, _, rfl⟩, ⟨_, _, _, rfl⟩, hide (hR.out.left_ hW.out hkl hp.out (by rw [← ht.out]; exact h2) g2 a2)⟩
        case measure => simp [intOf]; omega
    · obtain rfl : k = len := by omega
      have hfr := (hR.out.2.2.1.frozen (p := ⟨b, 0, none⟩) hblt (by simp)).trans hfz
      go_wp2_with fail
      go_ret
      have hd := hR.out
      rw [hlen.out] at hd
      exact ⟨_, rfl, hd.done hs.out⟩

set_option maxRecDepth 100000 in
set_option maxHeartbeats 4000000 in
theorem rdrop1 (b : Nat) (nx tag : Int) (l : List T) (aca : Int) (F : Nat → Prop) (w : World) (hl : l.length ≤ 1000) (hs : RS w b l aca F) :
    Calls Try.prog 37 #[.pointer (some ⟨b, 0, none⟩), .int .i64 1, .int .i64 nx, .int .u32 tag] w fun e w' => ∃ v, e = .returned v ∧ Row w' 67 4 encR v (l.filter (pNx nx)) ∧ RS w' b (l.filter fun t => !(pNx nx) t) aca (PlusBut F w w' v) ∧ Mod F w w' ∧ ∀ j, v.ownBlock = some j → w.heap.size ≤ j := by
  obtain ⟨A, cap, hc, -, hfz, -, hr, -, -, -⟩ := hs.at_
  have hblt := hs.lt
  obtain ⟨len, hlen⟩ : ∃ len, len = l.length := ⟨_, rfl⟩
  rw [← hlen] at hc hr hl
  replace hlen := hide hlen
  replace hr := hide hr
  replace hs := hide hs
  have hcw := hide hc
  clear hc
  go_enter Try.func37, Try.ntmps37
  go_wp2_with fail
  go_loopw [9, 10, 11] (fun u v x wr => ∃ k : Nat, k ≤ len ∧ x = .int .i64 k ∧ (∃ A m c, u = .slice A m c) ∧ (∃ A m c, v = .slice A m c) ∧ Hid (RDR (pNx nx) w wr l k u v)) (fun _ _ x _ => len - (intOf x).toNat)
  case atStart => exact ⟨0, by omega, rfl, ⟨_, _, _, rfl⟩, ⟨_, _, _, rfl⟩, hide ⟨Row.nil _ _ _ _, Row.nil _ _ _ _, Mod.refl _ _, by simp [Value.ownBlock], by simp [Value.ownBlock], by simp [Value.ownBlock]⟩⟩
  case round =>
    obtain ⟨k, hk, rfl, ⟨A1, m1, c1, rfl⟩, ⟨A2, m2, c2, rfl⟩, hR⟩ := hrel
    have hcr := hR.out.2.2.1.cell hcw.out (by simp)
    by_cases hlt : k < len
    · have hkl : k < l.length := by rw [← hlen.out]; exact hlt
      have hm0 := hR.out.2.2.1
      obtain ⟨ad, rfl, hc4⟩ := (hr.out.mod hm0 (by simp)).relem k hlt
      obtain ⟨t, ht⟩ : ∃ t, t = gi l k := ⟨_, rfl⟩
      rw [← ht] at hc4
      replace hc4 := hide hc4
      have hW := (Mod.refl (fun _ => False) wr).alloc (.cells #[.int .i64 t.nx, .int .u32 t.tag, .int .i64 t.at_, .bool t.st] 67)
      have hb0 : ∀ j u, ([.int .i64 t.nx, .int .u32 t.tag, .int .i64 t.at_, .bool t.st] : List Value)[j]? = some u → (wr.alloc (.cells #[.int .i64 t.nx, .int .u32 t.tag, .int .i64 t.at_, .bool t.st] 67)).cell? ((⟨wr.heap.size, 0, none⟩ : Addr).add j) = some u :=
        box_cells (cs := [.int .i64 t.nx, .int .u32 t.tag, .int .i64 t.at_, .bool t.st]) (Mod.refl _ _)
      replace hW := hide hW
      replace hb0 := hide hb0
      clear hm0
      have l1 := filter_len (pNx nx) l k
      have l2 := filter_len (fun t => !(pNx nx) t) l k
      have l3 : l.length ≤ 1000 := by rw [← hlen.out]; exact hl
      by_cases h1 : t.nx = nx
      · have h1b : (t.nx == nx) = true := by simpa using h1
        have hp : (pNx nx) (gi l k) = true := by rw [← ht]; simp [pNx, h1]
        replace hp := hide hp
        replace ht := hide ht
        clear h1
        go_wp2_with (first
          | (refine list_load 67 (.tmp 28) rfl rfl _ Try.underlying67 rfl (ad.add (k * 4)) [.int .i64 t.nx, .int .u32 t.tag, .int .i64 t.at_, .bool t.st] size67 rfl hc4.out ?_)
          | (refine list_load 67 (.tmp 12) rfl rfl _ Try.underlying67 rfl ⟨wr.heap.size, 0, none⟩ [.int .i64 t.nx, .int .u32 t.tag, .int .i64 t.at_, .bool t.st] size67 rfl hb0.out ?_)
          | (at_builtin; refine list_app (.tmp 68) (.tmp 70) 53 67 _ 4 32 encR rfl rfl encR_len encR_one Try.underlying53 elem67 (.slice A1 m1 c1) ((l.take k).filter (pNx nx)) (some ⟨(wr.alloc (.cells #[.int .i64 t.nx, .int .u32 t.tag, .int .i64 t.at_, .bool t.st] 67)).heap.size, 0, none⟩) 1 1 [t] rfl (by simp [Act.eval]) ((hR.out.1.mod hW.out (by simp)).alloc _) (Rd.box _ _ _ _) (by simp only [maxLen]; omega) (by omega) ?_; intro v2 w2 h2 g2 a2; obtain ⟨A3, m3, c3, rfl⟩ := h2.form))
        go_roundw
        case rel => exact ⟨k + 1, by omega, by go_num, ⟨_, _, _, rfl⟩, ⟨_, _, _, rfl⟩, hide (hR.out.out_ hW.out hkl hp.out (by rw [← ht.out]; exact h2) g2 a2)⟩
        case measure => simp [intOf]; omega
      · have h1b : (t.nx == nx) = false := by simpa using h1
        have hp : (pNx nx) (gi l k) = false := by rw [← ht]; simp [pNx, h1]
        replace hp := hide hp
        replace ht := hide ht
        clear h1
        go_wp2_with (first
          | (refine list_load 67 (.tmp 28) rfl rfl _ Try.underlying67 rfl (ad.add (k * 4)) [.int .i64 t.nx, .int .u32 t.tag, .int .i64 t.at_, .bool t.st] size67 rfl hc4.out ?_)
          | (refine list_load 67 (.tmp 12) rfl rfl _ Try.underlying67 rfl ⟨wr.heap.size, 0, none⟩ [.int .i64 t.nx, .int .u32 t.tag, .int .i64 t.at_, .bool t.st] size67 rfl hb0.out ?_)
          | (at_builtin; refine list_app (.tmp 72) (.tmp 74) 53 67 _ 4 32 encR rfl rfl encR_len encR_one Try.underlying53 elem67 (.slice A2 m2 c2) ((l.take k).filter (fun t => !(pNx nx) t)) (some ⟨(wr.alloc (.cells #[.int .i64 t.nx, .int .u32 t.tag, .int .i64 t.at_, .bool t.st] 67)).heap.size, 0, none⟩) 1 1 [t] rfl (by simp [Act.eval]) ((hR.out.2.1.mod hW.out (by simp)).alloc _) (Rd.box _ _ _ _) (by simp only [maxLen]; omega) (by omega) ?_; intro v2 w2 h2 g2 a2; obtain ⟨A3, m3, c3, rfl⟩ := h2.form))
        go_roundw
        case rel => exact ⟨k + 1, by omega, by go_num, ⟨_, _, _, rfl⟩, ⟨_, _, _, rfl⟩, hide (hR.out.left_ hW.out hkl hp.out (by rw [← ht.out]; exact h2) g2 a2)⟩
        case measure => simp [intOf]; omega
    · obtain rfl : k = len := by omega
      have hfr := (hR.out.2.2.1.frozen (p := ⟨b, 0, none⟩) hblt (by simp)).trans hfz
      go_wp2_with fail
      go_ret
      have hd := hR.out
      rw [hlen.out] at hd
      exact ⟨_, rfl, hd.done hs.out⟩

set_option maxRecDepth 100000 in
set_option maxHeartbeats 4000000 in
theorem rdrop2 (b : Nat) (nx tag : Int) (l : List T) (aca : Int) (F : Nat → Prop) (w : World) (hl : l.length ≤ 1000) (hs : RS w b l aca F) :
    Calls Try.prog 37 #[.pointer (some ⟨b, 0, none⟩), .int .i64 2, .int .i64 nx, .int .u32 tag] w fun e w' => ∃ v, e = .returned v ∧ Row w' 67 4 encR v (l.filter pAll) ∧ RS w' b (l.filter fun t => !pAll t) aca (PlusBut F w w' v) ∧ Mod F w w' ∧ ∀ j, v.ownBlock = some j → w.heap.size ≤ j := by
  obtain ⟨A, cap, hc, -, hfz, -, hr, -, -, -⟩ := hs.at_
  have hblt := hs.lt
  obtain ⟨len, hlen⟩ : ∃ len, len = l.length := ⟨_, rfl⟩
  rw [← hlen] at hc hr hl
  replace hlen := hide hlen
  replace hr := hide hr
  replace hs := hide hs
  have hcw := hide hc
  clear hc
  go_enter Try.func37, Try.ntmps37
  go_wp2_with fail
  go_loopw [9, 10, 11] (fun u v x wr => ∃ k : Nat, k ≤ len ∧ x = .int .i64 k ∧ (∃ A m c, u = .slice A m c) ∧ (∃ A m c, v = .slice A m c) ∧ Hid (RDR pAll w wr l k u v)) (fun _ _ x _ => len - (intOf x).toNat)
  case atStart => exact ⟨0, by omega, rfl, ⟨_, _, _, rfl⟩, ⟨_, _, _, rfl⟩, hide ⟨Row.nil _ _ _ _, Row.nil _ _ _ _, Mod.refl _ _, by simp [Value.ownBlock], by simp [Value.ownBlock], by simp [Value.ownBlock]⟩⟩
  case round =>
    obtain ⟨k, hk, rfl, ⟨A1, m1, c1, rfl⟩, ⟨A2, m2, c2, rfl⟩, hR⟩ := hrel
    have hcr := hR.out.2.2.1.cell hcw.out (by simp)
    by_cases hlt : k < len
    · have hkl : k < l.length := by rw [← hlen.out]; exact hlt
      have hm0 := hR.out.2.2.1
      obtain ⟨ad, rfl, hc4⟩ := (hr.out.mod hm0 (by simp)).relem k hlt
      obtain ⟨t, ht⟩ : ∃ t, t = gi l k := ⟨_, rfl⟩
      rw [← ht] at hc4
      replace hc4 := hide hc4
      have hW := (Mod.refl (fun _ => False) wr).alloc (.cells #[.int .i64 t.nx, .int .u32 t.tag, .int .i64 t.at_, .bool t.st] 67)
      have hb0 : ∀ j u, ([.int .i64 t.nx, .int .u32 t.tag, .int .i64 t.at_, .bool t.st] : List Value)[j]? = some u → (wr.alloc (.cells #[.int .i64 t.nx, .int .u32 t.tag, .int .i64 t.at_, .bool t.st] 67)).cell? ((⟨wr.heap.size, 0, none⟩ : Addr).add j) = some u :=
        box_cells (cs := [.int .i64 t.nx, .int .u32 t.tag, .int .i64 t.at_, .bool t.st]) (Mod.refl _ _)
      replace hW := hide hW
      replace hb0 := hide hb0
      clear hm0
      have l1 := filter_len pAll l k
      have l2 := filter_len (fun t => !pAll t) l k
      have l3 : l.length ≤ 1000 := by rw [← hlen.out]; exact hl
      have hp : pAll (gi l k) = true := by rw [← ht]; rfl
      replace hp := hide hp
      replace ht := hide ht
      have h00 := hk
      go_wp2_with (first
        | (refine list_load 67 (.tmp 28) rfl rfl _ Try.underlying67 rfl (ad.add (k * 4)) [.int .i64 t.nx, .int .u32 t.tag, .int .i64 t.at_, .bool t.st] size67 rfl hc4.out ?_)
        | (refine list_load 67 (.tmp 12) rfl rfl _ Try.underlying67 rfl ⟨wr.heap.size, 0, none⟩ [.int .i64 t.nx, .int .u32 t.tag, .int .i64 t.at_, .bool t.st] size67 rfl hb0.out ?_)
        | (at_builtin; refine list_app (.tmp 68) (.tmp 70) 53 67 _ 4 32 encR rfl rfl encR_len encR_one Try.underlying53 elem67 (.slice A1 m1 c1) ((l.take k).filter pAll) (some ⟨(wr.alloc (.cells #[.int .i64 t.nx, .int .u32 t.tag, .int .i64 t.at_, .bool t.st] 67)).heap.size, 0, none⟩) 1 1 [t] rfl (by simp [Act.eval]) ((hR.out.1.mod hW.out (by simp)).alloc _) (Rd.box _ _ _ _) (by simp only [maxLen]; omega) (by omega) ?_; intro v2 w2 h2 g2 a2; obtain ⟨A3, m3, c3, rfl⟩ := h2.form))
      go_roundw
      case rel => exact ⟨k + 1, by omega, by go_num, ⟨_, _, _, rfl⟩, ⟨_, _, _, rfl⟩, hide (hR.out.out_ hW.out hkl hp.out (by rw [← ht.out]; exact h2) g2 a2)⟩
      case measure => simp [intOf]; omega
    · obtain rfl : k = len := by omega
      have hfr := (hR.out.2.2.1.frozen (p := ⟨b, 0, none⟩) hblt (by simp)).trans hfz
      go_wp2_with fail
      go_ret
      have hd := hR.out
      rw [hlen.out] at hd
      exact ⟨_, rfl, hd.done hs.out⟩

set_option maxRecDepth 100000 in
set_option maxHeartbeats 4000000 in
theorem rdrop3 (b : Nat) (nx tag : Int) (l : List T) (aca : Int) (F : Nat → Prop) (w : World) (hl : l.length ≤ 1000) (hs : RS w b l aca F) :
    Calls Try.prog 37 #[.pointer (some ⟨b, 0, none⟩), .int .i64 3, .int .i64 nx, .int .u32 tag] w fun e w' => ∃ v, e = .returned v ∧ Row w' 67 4 encR v (l.filter pAca) ∧ RS w' b (l.filter fun t => !pAca t) aca (PlusBut F w w' v) ∧ Mod F w w' ∧ ∀ j, v.ownBlock = some j → w.heap.size ≤ j := by
  obtain ⟨A, cap, hc, -, hfz, -, hr, -, -, -⟩ := hs.at_
  have hblt := hs.lt
  obtain ⟨len, hlen⟩ : ∃ len, len = l.length := ⟨_, rfl⟩
  rw [← hlen] at hc hr hl
  replace hlen := hide hlen
  replace hr := hide hr
  replace hs := hide hs
  have hcw := hide hc
  clear hc
  go_enter Try.func37, Try.ntmps37
  go_wp2_with fail
  go_loopw [9, 10, 11] (fun u v x wr => ∃ k : Nat, k ≤ len ∧ x = .int .i64 k ∧ (∃ A m c, u = .slice A m c) ∧ (∃ A m c, v = .slice A m c) ∧ Hid (RDR pAca w wr l k u v)) (fun _ _ x _ => len - (intOf x).toNat)
  case atStart => exact ⟨0, by omega, rfl, ⟨_, _, _, rfl⟩, ⟨_, _, _, rfl⟩, hide ⟨Row.nil _ _ _ _, Row.nil _ _ _ _, Mod.refl _ _, by simp [Value.ownBlock], by simp [Value.ownBlock], by simp [Value.ownBlock]⟩⟩
  case round =>
    obtain ⟨k, hk, rfl, ⟨A1, m1, c1, rfl⟩, ⟨A2, m2, c2, rfl⟩, hR⟩ := hrel
    have hcr := hR.out.2.2.1.cell hcw.out (by simp)
    by_cases hlt : k < len
    · have hkl : k < l.length := by rw [← hlen.out]; exact hlt
      have hm0 := hR.out.2.2.1
      obtain ⟨ad, rfl, hc4⟩ := (hr.out.mod hm0 (by simp)).relem k hlt
      obtain ⟨t, ht⟩ : ∃ t, t = gi l k := ⟨_, rfl⟩
      rw [← ht] at hc4
      replace hc4 := hide hc4
      have hW := (Mod.refl (fun _ => False) wr).alloc (.cells #[.int .i64 t.nx, .int .u32 t.tag, .int .i64 t.at_, .bool t.st] 67)
      have hb0 : ∀ j u, ([.int .i64 t.nx, .int .u32 t.tag, .int .i64 t.at_, .bool t.st] : List Value)[j]? = some u → (wr.alloc (.cells #[.int .i64 t.nx, .int .u32 t.tag, .int .i64 t.at_, .bool t.st] 67)).cell? ((⟨wr.heap.size, 0, none⟩ : Addr).add j) = some u :=
        box_cells (cs := [.int .i64 t.nx, .int .u32 t.tag, .int .i64 t.at_, .bool t.st]) (Mod.refl _ _)
      replace hW := hide hW
      replace hb0 := hide hb0
      clear hm0
      have l1 := filter_len pAca l k
      have l2 := filter_len (fun t => !pAca t) l k
      have l3 : l.length ≤ 1000 := by rw [← hlen.out]; exact hl
      by_cases h1 : t.at_ = 3
      · have h1b : (t.at_ == 3) = true := by simpa using h1
        have hp : pAca (gi l k) = true := by rw [← ht]; simp [pAca, h1]
        replace hp := hide hp
        replace ht := hide ht
        clear h1
        go_wp2_with (first
          | (refine list_load 67 (.tmp 28) rfl rfl _ Try.underlying67 rfl (ad.add (k * 4)) [.int .i64 t.nx, .int .u32 t.tag, .int .i64 t.at_, .bool t.st] size67 rfl hc4.out ?_)
          | (refine list_load 67 (.tmp 12) rfl rfl _ Try.underlying67 rfl ⟨wr.heap.size, 0, none⟩ [.int .i64 t.nx, .int .u32 t.tag, .int .i64 t.at_, .bool t.st] size67 rfl hb0.out ?_)
          | (at_builtin; refine list_app (.tmp 68) (.tmp 70) 53 67 _ 4 32 encR rfl rfl encR_len encR_one Try.underlying53 elem67 (.slice A1 m1 c1) ((l.take k).filter pAca) (some ⟨(wr.alloc (.cells #[.int .i64 t.nx, .int .u32 t.tag, .int .i64 t.at_, .bool t.st] 67)).heap.size, 0, none⟩) 1 1 [t] rfl (by simp [Act.eval]) ((hR.out.1.mod hW.out (by simp)).alloc _) (Rd.box _ _ _ _) (by simp only [maxLen]; omega) (by omega) ?_; intro v2 w2 h2 g2 a2; obtain ⟨A3, m3, c3, rfl⟩ := h2.form))
        go_roundw
        case rel => exact ⟨k + 1, by omega, by go_num, ⟨_, _, _, rfl⟩, ⟨_, _, _, rfl⟩, hide (hR.out.out_ hW.out hkl hp.out (by rw [← ht.out]; exact h2) g2 a2)⟩
        case measure => simp [intOf]; omega
      · have h1b : (t.at_ == 3) = false := by simpa using h1
        have hp : pAca (gi l k) = false := by rw [← ht]; simp [pAca, h1]
        replace hp := hide hp
        replace ht := hide ht
        clear h1
        go_wp2_with (first
          | (refine list_load 67 (.tmp 28) rfl rfl _ Try.underlying67 rfl (ad.add (k * 4)) [.int .i64 t.nx, .int .u32 t.tag, .int .i64 t.at_, .bool t.st] size67 rfl hc4.out ?_)
          | (refine list_load 67 (.tmp 12) rfl rfl _ Try.underlying67 rfl ⟨wr.heap.size, 0, none⟩ [.int .i64 t.nx, .int .u32 t.tag, .int .i64 t.at_, .bool t.st] size67 rfl hb0.out ?_)
          | (at_builtin; refine list_app (.tmp 72) (.tmp 74) 53 67 _ 4 32 encR rfl rfl encR_len encR_one Try.underlying53 elem67 (.slice A2 m2 c2) ((l.take k).filter (fun t => !pAca t)) (some ⟨(wr.alloc (.cells #[.int .i64 t.nx, .int .u32 t.tag, .int .i64 t.at_, .bool t.st] 67)).heap.size, 0, none⟩) 1 1 [t] rfl (by simp [Act.eval]) ((hR.out.2.1.mod hW.out (by simp)).alloc _) (Rd.box _ _ _ _) (by simp only [maxLen]; omega) (by omega) ?_; intro v2 w2 h2 g2 a2; obtain ⟨A3, m3, c3, rfl⟩ := h2.form))
        go_roundw
        case rel => exact ⟨k + 1, by omega, by go_num, ⟨_, _, _, rfl⟩, ⟨_, _, _, rfl⟩, hide (hR.out.left_ hW.out hkl hp.out (by rw [← ht.out]; exact h2) g2 a2)⟩
        case measure => simp [intOf]; omega
    · obtain rfl : k = len := by omega
      have hfr := (hR.out.2.2.1.frozen (p := ⟨b, 0, none⟩) hblt (by simp)).trans hfz
      go_wp2_with fail
      go_ret
      have hd := hR.out
      rw [hlen.out] at hd
      exact ⟨_, rfl, hd.done hs.out⟩
end Go.Proofs.Ytabkplmpkdbchaa
