/-
  The walks of package attn: what each method does to the queues, said of eight lists of codes. Conditions: the receiver is nil or queues that read as lists of at most eight codes each.
-/
import Derived.Test.YtjkpelbhhapebaaGreatDoorMem
namespace Go.Proofs.YtjkpelbhhapebaaGreatDoor.A
open Go.RowKit
set_option maxRecDepth 100000

def rk (c : Int) : Int := if c / 256 = 41 then 0 else if c = 12032 then 1 else if c / 256 = 42 ∧ c ≠ 10753 then 2 else 3
def U16 (c : Int) : Prop := 0 ≤ c ∧ c < 65536
def All16 (l : List Int) : Prop := ∀ c ∈ l, U16 c
theorem All16.gi {l : List Int} (h : All16 l) (i : Nat) : U16 (gi l i) := by
  unfold YtjkpelbhhapebaaGreatDoor.gi
  by_cases hi : i < l.length
  · rw [List.getD_eq_getElem?_getD, List.getElem?_eq_getElem hi]; exact h _ (List.getElem_mem hi)
  · rw [List.getD_eq_getElem?_getD, List.getElem?_eq_none (by omega)]; exact ⟨by decide, by decide⟩

set_option maxHeartbeats 400000 in
theorem in_some (a : Addr) (n : Int) (w : World) :
    Calls Tryz.prog 76 #[.pointer (some a), .int .i64 n] w fun e w' => e = .returned (.bool (decide (0 ≤ n ∧ n < 8))) ∧ w = w' := by
  go_enter Tryz.func76, Tryz.ntmps76
  go_wp2
  all_goals
    go_ret
    refine ⟨ret_bool (Bool.eq_iff_iff.2 ?_), rfl⟩
    simp
    try omega

set_option maxHeartbeats 400000 in
theorem in_none (n : Int) (w : World) :
    Calls Tryz.prog 76 #[.pointer none, .int .i64 n] w fun e w' => e = .returned (.bool false) ∧ w = w' := by
  go_enter Tryz.func76, Tryz.ntmps76
  go_wp2
  go_ret
  exact ⟨rfl, rfl⟩

set_option maxHeartbeats 400000 in
theorem rank_any (c : Int) (w : World) (h : U16 c) :
    Calls Tryz.prog 77 #[.int .u16 c] w fun e w' => e = .returned (.int .i64 (rk c)) ∧ w = w' := by
  obtain ⟨h0, h1⟩ := h
  go_enter Tryz.func77, Tryz.ntmps77
  go_wp2
  all_goals
    go_ret
    refine ⟨?_, rfl⟩
    simp_all [rk]

/-- The place of what goes first among the first k of l; -1: none. -/
def fi (l : List Int) : Nat → Int
  | 0 => -1
  | k + 1 => if fi l k < 0 ∨ rk (gi l k) < rk (gi l (fi l k).toNat) then (k : Int) else fi l k
theorem fi_lt (l : List Int) : ∀ k, fi l k < k ∧ -1 ≤ fi l k ∧ (0 < k → 0 ≤ fi l k)
  | 0 => by simp [fi]
  | k + 1 => by
    have := fi_lt l k
    simp only [fi]
    split <;> omega

/-- The queues: block b holds eight rows; all lies in F. -/
def Q (w : World) (b : Nat) (L : Nat → List Int) (F : Nat → Prop) : Prop :=
  ∃ cs : Array Value, w.heap[b]? = some (.cells cs 149 (0, 0)) ∧ cs.size = 8 ∧ F b ∧
    ∀ i, i < 8 → (L i).length ≤ 8 ∧ All16 (L i) ∧ ∃ v, cs[i]? = some v ∧ Row w 30 1 (ic .u16) v (L i) ∧ ∀ k, v.ownBlock = some k → F k

theorem Q.mono {w : World} {b : Nat} {L : Nat → List Int} {F G : Nat → Prop} (h : Q w b L F) (hG : ∀ k, F k → G k) : Q w b L G := by
  obtain ⟨cs, h1, h2, h3, h4⟩ := h
  refine ⟨cs, h1, h2, hG _ h3, fun i hi => ?_⟩
  obtain ⟨k1, k2, v, k3, k4, k5⟩ := h4 i hi
  exact ⟨k1, k2, v, k3, k4, fun k hk => hG k (k5 k hk)⟩
theorem Q.mod {w w' : World} {b : Nat} {L : Nat → List Int} {F G : Nat → Prop} (h : Q w b L F) (hm : Mod G w w') (hd : ∀ k, F k → ¬ G k) : Q w' b L F := by
  obtain ⟨cs, h1, h2, h3, h4⟩ := h
  refine ⟨cs, hm.heap h1 (hd _ h3), h2, h3, fun i hi => ?_⟩
  obtain ⟨k1, k2, v, k3, k4, k5⟩ := h4 i hi
  exact ⟨k1, k2, v, k3, k4.mod hm fun k hk => hd k (k5 k hk), k5⟩
theorem Q.lt {w : World} {b : Nat} {L : Nat → List Int} {F : Nat → Prop} (h : Q w b L F) : b < w.heap.size := by
  obtain ⟨cs, h1, _⟩ := h
  exact (Array.getElem?_eq_some_iff.1 h1).1
theorem Q.at_ {w : World} {b : Nat} {L : Nat → List Int} {F : Nat → Prop} (h : Q w b L F) (n : Int) (h0 : 0 ≤ n) (h8 : n < 8) :
    ∃ A cap, w.cell? ⟨b, n.toNat, none⟩ = some (.slice A (L n.toNat).length cap) ∧ w.frozen? ⟨b, n.toNat, none⟩ = false ∧ (L n.toNat).length ≤ cap ∧ cap ≤ maxLen ∧
      (L n.toNat).length ≤ 8 ∧ All16 (L n.toNat) ∧ Rd w 1 (ic .u16) A (L n.toNat).length (L n.toNat) := by
  obtain ⟨cs, h1, h2, h3, h4⟩ := h
  obtain ⟨k1, k2, v, k3, k4, k5⟩ := h4 n.toNat (by omega)
  obtain ⟨A, c, rfl, hc, hm⟩ := k4.slice
  refine ⟨A, c, ?_, ?_, hc, hm, k1, k2, k4.rd (ic_len _) rfl⟩
  · rw [cell_of_row w b _ cs 149 (0, 0) h1, k3]
  · simp [World.frozen?, h1]
/-- One list is put in another's place. -/
def put (L : Nat → List Int) (n : Nat) (l : List Int) : Nat → List Int := fun i => if i = n then l else L i
theorem Q.put {w : World} {b : Nat} {L : Nat → List Int} {F : Nat → Prop} (h : Q w b L F) (n : Nat) {l : List Int} {v : Value} (hl : l.length ≤ 8) (ha : All16 l)
    (hr : Row w 30 1 (ic .u16) v l) (hv : ∀ k, v.ownBlock = some k → F k) : Q (w.setCell ⟨b, n, none⟩ v) b (put L n l) F := by
  obtain ⟨cs, h1, h2, h3, h4⟩ := h
  have hm : Mod (fun k => k = b) w (w.setCell ⟨b, n, none⟩ v) := (Mod.refl (fun k => k = b) w).setCell (p := ⟨b, n, none⟩) (.inl rfl) v
  refine ⟨cs.setIfInBounds n v, by simp [World.setCell, Array.getElem?_modify, h1], by simpa using h2, h3, fun i hi => ?_⟩
  obtain ⟨k1, k2, u, k3, k4, k5⟩ := h4 i hi
  by_cases e : i = n
  · subst e
    refine ⟨by simp [YtjkpelbhhapebaaGreatDoor.A.put, hl], by simpa [YtjkpelbhhapebaaGreatDoor.A.put] using ha, v, by simp [h2, hi], ?_, hv⟩
    simp only [YtjkpelbhhapebaaGreatDoor.A.put, if_true]
    exact hr.mod hm fun k hk e => hr.ne h1 (by decide) (e ▸ hk)
  · refine ⟨by simpa [YtjkpelbhhapebaaGreatDoor.A.put, e] using k1, by simpa [YtjkpelbhhapebaaGreatDoor.A.put, e] using k2, u, ?_, ?_, k5⟩
    · rw [Array.getElem?_setIfInBounds, if_neg (fun h => e h.symm)]; exact k3
    · simp only [YtjkpelbhhapebaaGreatDoor.A.put, if_neg e]
      exact k4.mod hm fun k hk e => k4.ne h1 (by decide) (e ▸ hk)

set_option maxHeartbeats 400000 in
theorem first_some (b : Nat) (n : Int) (L : Nat → List Int) (F : Nat → Prop) (w : World) (h0 : 0 ≤ n) (h8 : n < 8) (hq : Q w b L F) :
    Calls Tryz.prog 49 #[.pointer (some ⟨b, 0, none⟩), .int .i64 n] w fun e w' => e = .returned (.int .i64 (fi (L n.toNat) (L n.toNat).length)) ∧ ∃ m, w' = w.drewN m := by
  obtain ⟨A, cap, hc, -, -, -, hl8, hu, hr⟩ := hq.at_ n h0 h8
  clear hq
  generalize L n.toNat = l at *
  obtain ⟨len, hlen⟩ : ∃ len, len = l.length := ⟨_, rfl⟩
  rw [← hlen] at hc hr hl8 ⊢
  clear hlen
  replace hr := hide hr
  replace hu := hide hu
  go_enter Tryz.func49, Tryz.ntmps49
  go_wp2_with (go_at_call 76; refine (in_some _ _ _).mono ?_; rintro e w' ⟨rfl, rfl⟩)
  go_loopw [5, 20] (fun v i wr => ∃ k m : Nat, k ≤ len ∧ i = .int .i64 k ∧ v = .int .i64 (fi l k) ∧ wr = w.drewN m) (fun _ i _ => len - (intOf i).toNat)
  case atStart => exact ⟨0, 0, by omega, rfl, rfl, rfl⟩
  case round =>
    obtain ⟨k, m, hk, rfl, rfl, rfl⟩ := hrel
    obtain ⟨f1, f2, f3⟩ := fi_lt l k
    by_cases hlt : k < len
    · obtain ⟨ad, rfl, hck⟩ := hr.out.int k hlt
      have hfk : fi l (k + 1) = if fi l k < 0 ∨ rk (gi l k) < rk (gi l (fi l k).toNat) then (k : Int) else fi l k := rfl
      have HF := hide hfk
      clear hfk
      by_cases hneg : fi l k < 0
      · have hd : decide (fi l k < 0) = true := by simpa using hneg
        go_wp2
        go_quiet (fail)
        go_wp2
        go_roundw
        case rel => exact ⟨k + 1, _, by omega, by go_num, by rw [HF.out]; rw [if_pos (Or.inl hneg)], rfl⟩
        case measure => simp [intOf]; omega
      · have hd : decide (fi l k < 0) = false := by simpa using hneg
        obtain ⟨ad', he, hcb⟩ := hr.out.int (fi l k).toNat (by omega)
        obtain rfl : ad = ad' := by simpa using he
        go_wp2
        go_quiet ((go_at_call 77; exact (rank_any _ _ (hu.out.gi _)).mono fun e w' h => ⟨h.1, _, h.2.symm⟩))
        go_wp2
        all_goals
          go_roundw
          case rel => exact ⟨k + 1, _, by omega, by go_num, by rw [HF.out]; first | rw [if_pos (Or.inr ‹_›)] | rw [if_neg (by omega)], rfl⟩
          case measure => simp [intOf]; omega
    · obtain rfl : k = len := by omega
      go_wp2
      go_ret
      exact ⟨rfl, m, rfl⟩

set_option maxHeartbeats 400000 in
theorem first_out (p : Option Addr) (n : Int) (w : World) (h : p = none ∨ n < 0 ∨ 8 ≤ n) :
    Calls Tryz.prog 49 #[.pointer p, .int .i64 n] w fun e w' => e = .returned (.int .i64 (-1)) ∧ w = w' := by
  have hin : Calls Tryz.prog 76 #[.pointer p, .int .i64 n] w fun e w' => e = .returned (.bool false) ∧ w = w' := by
    rcases p with _ | a
    · exact in_none n w
    · refine (in_some a n w).mono fun e w' hh => ⟨hh.1.trans (ret_bool ?_), hh.2⟩
      simp
      rcases h with h | h | h
      · cases h
      · omega
      · omega
  clear h
  go_enter Tryz.func49, Tryz.ntmps49
  go_wp2_with (go_at_call 76; refine hin.mono ?_; rintro e w' ⟨rfl, rfl⟩)
  go_ret
  exact ⟨rfl, rfl⟩

theorem elem27 : Elem Tryz.prog 30 (.int .u16 0) 1 2 := ⟨by kernel_rfl, rfl, by decide⟩

/-- Nothing that was there has turned. -/
abbrev Keep (w w' : World) : Prop := Mod (fun _ => False) w w'

set_option maxHeartbeats 400000 in
theorem peek_some (b : Nat) (n : Int) (L : Nat → List Int) (F : Nat → Prop) (w : World) (h0 : 0 ≤ n) (h8 : n < 8) (hq : Q w b L F) (hne : 0 < (L n.toNat).length) :
    Calls Tryz.prog 23 #[.pointer (some ⟨b, 0, none⟩), .int .i64 n] w fun e w' =>
      e = .returned (.tuple #[.int .u16 (gi (L n.toNat) (fi (L n.toNat) (L n.toNat).length).toNat), .bool true]) ∧ ∃ m, w' = w.drewN m := by
  obtain ⟨A, cap, hc, -, -, -, hl8, hu, hr⟩ := hq.at_ n h0 h8
  obtain ⟨f1, f2, f3⟩ := fi_lt (L n.toNat) (L n.toNat).length
  have f4 := f3 hne
  obtain ⟨ad, rfl, hck⟩ := hr.int (fi (L n.toNat) (L n.toNat).length).toNat (by omega)
  have hf := first_some b n L F w h0 h8 hq
  have hd : decide (fi (L n.toNat) (L n.toNat).length < 0) = false := by simp; omega
  replace hf := hide hf
  clear hu hr hq f3
  go_enter Tryz.func23, Tryz.ntmps23
  go_wp2_with (go_at_call 49; refine hf.out.mono ?_; rintro e w' ⟨rfl, m, rfl⟩)
  go_ret2
  exact ⟨rfl, m, rfl⟩

set_option maxHeartbeats 400000 in
theorem peek_none (p : Option Addr) (n : Int) (w : World) (R : World → Prop)
    (hf : Calls Tryz.prog 49 #[.pointer p, .int .i64 n] w fun e w' => e = .returned (.int .i64 (-1)) ∧ R w') :
    Calls Tryz.prog 23 #[.pointer p, .int .i64 n] w fun e w' => e = .returned (.tuple #[.int .u16 0, .bool false]) ∧ R w' := by
  replace hf := hide hf
  go_enter Tryz.func23, Tryz.ntmps23
  go_wp2_with (go_at_call 49; refine hf.out.mono ?_; rintro e w' ⟨rfl, hR⟩)
  go_ret2
  exact ⟨rfl, hR⟩

set_option maxHeartbeats 400000 in
theorem new_any (w : World) :
    Calls Tryz.prog 39 #[] w fun e w' => e = .returned (.pointer (some ⟨w.heap.size, 0, none⟩)) ∧ Q w' w.heap.size (fun _ => []) (Plus (fun _ => False) w w') ∧ Keep w w' := by
  go_enter Tryz.func39, Tryz.ntmps39
  go_wp2
  go_ret
  refine ⟨rfl, ⟨_, heap_alloc_new w _, rfl, .inr ⟨Nat.le_refl _, by simp⟩, fun i hi => ⟨by simp, fun c hc => (by cases hc), .slice none 0 0, ?_, Row.nil _ _ _ _, by simp [Value.ownBlock]⟩⟩, (Mod.refl _ w).alloc _⟩
  match i, hi with
  | 0, _ | 1, _ | 2, _ | 3, _ | 4, _ | 5, _ | 6, _ | 7, _ => rfl

/-- What Add makes of a list. -/
def addL (l : List Int) (c : Int) : List Int := if c = 10496 then [c] else if c ∈ l then l else if l.length < 8 then l ++ [c] else l

theorem mem_gi {l : List Int} {c : Int} (h : c ∈ l) : ∃ j, j < l.length ∧ gi l j = c := by
  obtain ⟨j, hj, e⟩ := List.getElem_of_mem h
  exact ⟨j, hj, by rw [gi_eq l j hj, e]⟩
theorem gi_mem {l : List Int} {j : Nat} (h : j < l.length) : gi l j ∈ l := by rw [gi_eq l j h]; exact List.getElem_mem h

theorem Q.stored {w w2 : World} {b : Nat} {L : Nat → List Int} {F : Nat → Prop} (hq : Q w b L F) (hm : Keep w w2) (n : Nat) {l : List Int} {v : Value} (hl : l.length ≤ 8) (ha : All16 l)
    (hr : Row w2 30 1 (ic .u16) v l) (hv : ∀ k, v.ownBlock = some k → w.heap.size ≤ k) :
    Q (w2.setCell ⟨b, n, none⟩ v) b (YtjkpelbhhapebaaGreatDoor.A.put L n l) (Plus F w (w2.setCell ⟨b, n, none⟩ v)) ∧ Mod F w (w2.setCell ⟨b, n, none⟩ v) := by
  have hF : F b := by obtain ⟨_, _, _, h, _⟩ := hq; exact h
  have hsz : (w2.setCell ⟨b, n, none⟩ v).heap.size = w2.heap.size := by simp [World.setCell]
  refine ⟨((hq.mod hm (by simp)).mono (G := Plus F w (w2.setCell ⟨b, n, none⟩ v)) fun k hk => .inl hk).put n hl ha hr fun k hk => .inr ⟨hv k hk, ?_⟩, (hm.mono (by simp)).setCell (.inl hF) v⟩
  rw [hsz]
  exact hr.lt k hk

end Go.Proofs.YtjkpelbhhapebaaGreatDoor.A
