/-
  The walks of package attn: what each method does to the queues, said of eight lists of codes. Conditions: the receiver is nil or queues that read as lists of at most eight codes each. The walk of (*attn.Queues).Add. Conditions: queues that read as lists of at most eight codes, a nexus within 0 to 7, a code within its kind. The walk of (*attn.Queues).Next. Conditions: queues that read as lists of at most eight codes, a nexus within 0 to 7. The walks of (*attn.Queues).AddAll and of the laws' awake. Conditions: queues that read as lists of at most eight codes, a code within its kind.
-/
import Derived.Test.YtjkpelbhhapebaaGreatDoorMem
namespace Go.Proofs.YtjkpelbhhapebaaGreatDoor.A
open Go.RowKit
set_option maxRecDepth 100000

def rk (c : Int) : Int := if c / 256 = 41 then 0 else if c = 12032 then 1 else if c / 256 = 42 ∧ c ≠ 10753 then 2 else 3
def U16 (c : Int) : Prop := 0 ≤ c ∧ c < 65536
def All16 (l : List Int) : Prop := ∀ c ∈ l, U16 c
theorem All16.gi {l : List Int} (h : All16 l) (i : Nat) : U16 (gi l i) := by
  unfold YtjkpelbhhapebaaGreatDoor.gi
  by_cases hi : i < l.length
  · rw [List.getD_eq_getElem?_getD, List.getElem?_eq_getElem hi]; exact h _ (List.getElem_mem hi)
  · rw [List.getD_eq_getElem?_getD, List.getElem?_eq_none (by omega)]; exact ⟨by decide, by decide⟩

set_option maxHeartbeats 400000 in
theorem in_some (a : Addr) (n : Int) (w : World) :
    Calls Tryz.prog 76 #[.pointer (some a), .int .i64 n] w fun e w' => e = .returned (.bool (decide (0 ≤ n ∧ n < 8))) ∧ w = w' := by
  go_enter Tryz.func76, Tryz.ntmps76
  go_wp2
  all_goals
    go_ret
    refine ⟨ret_bool (Bool.eq_iff_iff.2 ?_), rfl⟩
    simp
    try omega

set_option maxHeartbeats 400000 in
theorem in_none (n : Int) (w : World) :
    Calls Tryz.prog 76 #[.pointer none, .int .i64 n] w fun e w' => e = .returned (.bool false) ∧ w = w' := by
  go_enter Tryz.func76, Tryz.ntmps76
  go_wp2
  go_ret
  exact ⟨rfl, rfl⟩

set_option maxHeartbeats 400000 in
theorem rank_any (c : Int) (w : World) (h : U16 c) :
    Calls Tryz.prog 77 #[.int .u16 c] w fun e w' => e = .returned (.int .i64 (rk c)) ∧ w = w' := by
  obtain ⟨h0, h1⟩ := h
  go_enter Tryz.func77, Tryz.ntmps77
  go_wp2
  all_goals
    go_ret
    refine ⟨?_, rfl⟩
    simp_all [rk]

/-- The place of what goes first among the first k of l; -1: none. -/
def fi (l : List Int) : Nat → Int
  | 0 => -1
  | k + 1 => if fi l k < 0 ∨ rk (gi l k) < rk (gi l (fi l k).toNat) then (k : Int) else fi l k
theorem fi_lt (l : List Int) : ∀ k, fi l k < k ∧ -1 ≤ fi l k ∧ (0 < k → 0 ≤ fi l k)
  | 0 => by simp [fi]
  | k + 1 => by
    have := fi_lt l k
    simp only [fi]
    split <;> omega

/-- The queues: block b holds eight rows; all lies in F. -/
def Q (w : World) (b : Nat) (L : Nat → List Int) (F : Nat → Prop) : Prop :=
  ∃ cs : Array Value, w.heap[b]? = some (.cells cs 149 (0, 0)) ∧ cs.size = 8 ∧ F b ∧
    ∀ i, i < 8 → (L i).length ≤ 8 ∧ All16 (L i) ∧ ∃ v, cs[i]? = some v ∧ Row w 30 1 (ic .u16) v (L i) ∧ ∀ k, v.ownBlock = some k → F k

theorem Q.mono {w : World} {b : Nat} {L : Nat → List Int} {F G : Nat → Prop} (h : Q w b L F) (hG : ∀ k, F k → G k) : Q w b L G := by
  obtain ⟨cs, h1, h2, h3, h4⟩ := h
  refine ⟨cs, h1, h2, hG _ h3, fun i hi => ?_⟩
  obtain ⟨k1, k2, v, k3, k4, k5⟩ := h4 i hi
  exact ⟨k1, k2, v, k3, k4, fun k hk => hG k (k5 k hk)⟩
theorem Q.mod {w w' : World} {b : Nat} {L : Nat → List Int} {F G : Nat → Prop} (h : Q w b L F) (hm : Mod G w w') (hd : ∀ k, F k → ¬ G k) : Q w' b L F := by
  obtain ⟨cs, h1, h2, h3, h4⟩ := h
  refine ⟨cs, hm.heap h1 (hd _ h3), h2, h3, fun i hi => ?_⟩
  obtain ⟨k1, k2, v, k3, k4, k5⟩ := h4 i hi
  exact ⟨k1, k2, v, k3, k4.mod hm fun k hk => hd k (k5 k hk), k5⟩
theorem Q.lt {w : World} {b : Nat} {L : Nat → List Int} {F : Nat → Prop} (h : Q w b L F) : b < w.heap.size := by
  obtain ⟨cs, h1, _⟩ := h
  exact (Array.getElem?_eq_some_iff.1 h1).1
theorem Q.at_ {w : World} {b : Nat} {L : Nat → List Int} {F : Nat → Prop} (h : Q w b L F) (n : Int) (h0 : 0 ≤ n) (h8 : n < 8) :
    ∃ A cap, w.cell? ⟨b, n.toNat, none⟩ = some (.slice A (L n.toNat).length cap) ∧ w.frozen? ⟨b, n.toNat, none⟩ = false ∧ (L n.toNat).length ≤ cap ∧ cap ≤ maxLen ∧
      (L n.toNat).length ≤ 8 ∧ All16 (L n.toNat) ∧ Rd w 1 (ic .u16) A (L n.toNat).length (L n.toNat) := by
  obtain ⟨cs, h1, h2, h3, h4⟩ := h
  obtain ⟨k1, k2, v, k3, k4, k5⟩ := h4 n.toNat (by omega)
  obtain ⟨A, c, rfl, hc, hm⟩ := k4.slice
  refine ⟨A, c, ?_, ?_, hc, hm, k1, k2, k4.rd (ic_len _) rfl⟩
  · rw [cell_of_row w b _ cs 149 (0, 0) h1, k3]
  · simp [World.frozen?, h1]
/-- One list is put in another's place. -/
def put (L : Nat → List Int) (n : Nat) (l : List Int) : Nat → List Int := fun i => if i = n then l else L i
theorem Q.put {w : World} {b : Nat} {L : Nat → List Int} {F : Nat → Prop} (h : Q w b L F) (n : Nat) {l : List Int} {v : Value} (hl : l.length ≤ 8) (ha : All16 l)
    (hr : Row w 30 1 (ic .u16) v l) (hv : ∀ k, v.ownBlock = some k → F k) : Q (w.setCell ⟨b, n, none⟩ v) b (put L n l) F := by
  obtain ⟨cs, h1, h2, h3, h4⟩ := h
  have hm : Mod (fun k => k = b) w (w.setCell ⟨b, n, none⟩ v) := (Mod.refl (fun k => k = b) w).setCell (p := ⟨b, n, none⟩) (.inl rfl) v
  refine ⟨cs.setIfInBounds n v, by simp [World.setCell, Array.getElem?_modify, h1], by simpa using h2, h3, fun i hi => ?_⟩
  obtain ⟨k1, k2, u, k3, k4, k5⟩ := h4 i hi
  by_cases e : i = n
  · subst e
    refine ⟨by simp [YtjkpelbhhapebaaGreatDoor.A.put, hl], by simpa [YtjkpelbhhapebaaGreatDoor.A.put] using ha, v, by simp [h2, hi], ?_, hv⟩
    simp only [YtjkpelbhhapebaaGreatDoor.A.put, if_true]
    exact hr.mod hm fun k hk e => hr.ne h1 (by decide) (e ▸ hk)
  · refine ⟨by simpa [YtjkpelbhhapebaaGreatDoor.A.put, e] using k1, by simpa [YtjkpelbhhapebaaGreatDoor.A.put, e] using k2, u, ?_, ?_, k5⟩
    · rw [Array.getElem?_setIfInBounds, if_neg (fun h => e h.symm)]; exact k3
    · simp only [YtjkpelbhhapebaaGreatDoor.A.put, if_neg e]
      exact k4.mod hm fun k hk e => k4.ne h1 (by decide) (e ▸ hk)

set_option maxHeartbeats 400000 in
theorem first_some (b : Nat) (n : Int) (L : Nat → List Int) (F : Nat → Prop) (w : World) (h0 : 0 ≤ n) (h8 : n < 8) (hq : Q w b L F) :
    Calls Tryz.prog 49 #[.pointer (some ⟨b, 0, none⟩), .int .i64 n] w fun e w' => e = .returned (.int .i64 (fi (L n.toNat) (L n.toNat).length)) ∧ ∃ m, w' = w.drewN m := by
  obtain ⟨A, cap, hc, -, -, -, hl8, hu, hr⟩ := hq.at_ n h0 h8
  clear hq
  generalize L n.toNat = l at *
  obtain ⟨len, hlen⟩ : ∃ len, len = l.length := ⟨_, rfl⟩
  rw [← hlen] at hc hr hl8 ⊢
  clear hlen
  replace hr := hide hr
  replace hu := hide hu
  go_enter Tryz.func49, Tryz.ntmps49
  go_wp2_with (go_at_call 76; refine (in_some _ _ _).mono ?_; rintro e w' ⟨rfl, rfl⟩)
  go_loopw [5, 20] (fun v i wr => ∃ k m : Nat, k ≤ len ∧ i = .int .i64 k ∧ v = .int .i64 (fi l k) ∧ wr = w.drewN m) (fun _ i _ => len - (intOf i).toNat)
  case atStart => exact ⟨0, 0, by omega, rfl, rfl, rfl⟩
  case round =>
    obtain ⟨k, m, hk, rfl, rfl, rfl⟩ := hrel
    obtain ⟨f1, f2, f3⟩ := fi_lt l k
    by_cases hlt : k < len
    · obtain ⟨ad, rfl, hck⟩ := hr.out.int k hlt
      have hfk : fi l (k + 1) = if fi l k < 0 ∨ rk (gi l k) < rk (gi l (fi l k).toNat) then (k : Int) else fi l k := rfl
      have HF := hide hfk
      clear hfk
      by_cases hneg : fi l k < 0
      · have hd : decide (fi l k < 0) = true := by simpa using hneg
        go_wp2
        go_quiet (fail)
        go_wp2
        go_roundw
        case rel => exact ⟨k + 1, _, by omega, by go_num, by rw [HF.out]; rw [if_pos (Or.inl hneg)], rfl⟩
        case measure => simp [intOf]; omega
      · have hd : decide (fi l k < 0) = false := by simpa using hneg
        obtain ⟨ad', he, hcb⟩ := hr.out.int (fi l k).toNat (by omega)
        obtain rfl : ad = ad' := by simpa using he
        go_wp2
        go_quiet ((go_at_call 77; exact (rank_any _ _ (hu.out.gi _)).mono fun e w' h => ⟨h.1, _, h.2.symm⟩))
        go_wp2
        all_goals
          go_roundw
          case rel => exact ⟨k + 1, _, by omega, by go_num, by rw [HF.out]; first | rw [if_pos (Or.inr ‹_›)] | rw [if_neg (by omega)], rfl⟩
          case measure => simp [intOf]; omega
    · obtain rfl : k = len := by omega
      go_wp2
      go_ret
      exact ⟨rfl, m, rfl⟩

set_option maxHeartbeats 400000 in
theorem first_out (p : Option Addr) (n : Int) (w : World) (h : p = none ∨ n < 0 ∨ 8 ≤ n) :
    Calls Tryz.prog 49 #[.pointer p, .int .i64 n] w fun e w' => e = .returned (.int .i64 (-1)) ∧ w = w' := by
  have hin : Calls Tryz.prog 76 #[.pointer p, .int .i64 n] w fun e w' => e = .returned (.bool false) ∧ w = w' := by
    rcases p with _ | a
    · exact in_none n w
    · refine (in_some a n w).mono fun e w' hh => ⟨hh.1.trans (ret_bool ?_), hh.2⟩
      simp
      rcases h with h | h | h
      · cases h
      · omega
      · omega
  clear h
  go_enter Tryz.func49, Tryz.ntmps49
  go_wp2_with (go_at_call 76; refine hin.mono ?_; rintro e w' ⟨rfl, rfl⟩)
  go_ret
  exact ⟨rfl, rfl⟩

theorem elem27 : Elem Tryz.prog 30 (.int .u16 0) 1 2 := ⟨by kernel_rfl, rfl, by decide⟩

/-- Nothing that was there has turned. -/
abbrev Keep (w w' : World) : Prop := Mod (fun _ => False) w w'

set_option maxHeartbeats 400000 in
theorem peek_some (b : Nat) (n : Int) (L : Nat → List Int) (F : Nat → Prop) (w : World) (h0 : 0 ≤ n) (h8 : n < 8) (hq : Q w b L F) (hne : 0 < (L n.toNat).length) :
    Calls Tryz.prog 23 #[.pointer (some ⟨b, 0, none⟩), .int .i64 n] w fun e w' =>
      e = .returned (.tuple #[.int .u16 (gi (L n.toNat) (fi (L n.toNat) (L n.toNat).length).toNat), .bool true]) ∧ ∃ m, w' = w.drewN m := by
  obtain ⟨A, cap, hc, -, -, -, hl8, hu, hr⟩ := hq.at_ n h0 h8
  obtain ⟨f1, f2, f3⟩ := fi_lt (L n.toNat) (L n.toNat).length
  have f4 := f3 hne
  obtain ⟨ad, rfl, hck⟩ := hr.int (fi (L n.toNat) (L n.toNat).length).toNat (by omega)
  have hf := first_some b n L F w h0 h8 hq
  have hd : decide (fi (L n.toNat) (L n.toNat).length < 0) = false := by simp; omega
  replace hf := hide hf
  clear hu hr hq f3
  go_enter Tryz.func23, Tryz.ntmps23
  go_wp2_with (go_at_call 49; refine hf.out.mono ?_; rintro e w' ⟨rfl, m, rfl⟩)
  go_ret2
  exact ⟨rfl, m, rfl⟩

set_option maxHeartbeats 400000 in
theorem peek_none (p : Option Addr) (n : Int) (w : World) (R : World → Prop)
    (hf : Calls Tryz.prog 49 #[.pointer p, .int .i64 n] w fun e w' => e = .returned (.int .i64 (-1)) ∧ R w') :
    Calls Tryz.prog 23 #[.pointer p, .int .i64 n] w fun e w' => e = .returned (.tuple #[.int .u16 0, .bool false]) ∧ R w' := by
  replace hf := hide hf
  go_enter Tryz.func23, Tryz.ntmps23
  go_wp2_with (go_at_call 49; refine hf.out.mono ?_; rintro e w' ⟨rfl, hR⟩)
  go_ret2
  exact ⟨rfl, hR⟩

set_option maxHeartbeats 400000 in
theorem new_any (w : World) :
    Calls Tryz.prog 39 #[] w fun e w' => e = .returned (.pointer (some ⟨w.heap.size, 0, none⟩)) ∧ Q w' w.heap.size (fun _ => []) (Plus (fun _ => False) w w') ∧ Keep w w' := by
  go_enter Tryz.func39, Tryz.ntmps39
  go_wp2
  go_ret
  refine ⟨rfl, ⟨_, heap_alloc_new w _, rfl, .inr ⟨Nat.le_refl _, by simp⟩, fun i hi => ⟨by simp, fun c hc => (by cases hc), .slice none 0 0, ?_, Row.nil _ _ _ _, by simp [Value.ownBlock]⟩⟩, (Mod.refl _ w).alloc _⟩
  match i, hi with
  | 0, _ | 1, _ | 2, _ | 3, _ | 4, _ | 5, _ | 6, _ | 7, _ => rfl

/-- What Add makes of a list. -/
def addL (l : List Int) (c : Int) : List Int := if c = 10496 then [c] else if c ∈ l then l else if l.length < 8 then l ++ [c] else l

theorem mem_gi {l : List Int} {c : Int} (h : c ∈ l) : ∃ j, j < l.length ∧ gi l j = c := by
  obtain ⟨j, hj, e⟩ := List.getElem_of_mem h
  exact ⟨j, hj, by rw [gi_eq l j hj, e]⟩
theorem gi_mem {l : List Int} {j : Nat} (h : j < l.length) : gi l j ∈ l := by rw [gi_eq l j h]; exact List.getElem_mem h

theorem Q.stored {w w2 : World} {b : Nat} {L : Nat → List Int} {F : Nat → Prop} (hq : Q w b L F) (hm : Keep w w2) (n : Nat) {l : List Int} {v : Value} (hl : l.length ≤ 8) (ha : All16 l)
    (hr : Row w2 30 1 (ic .u16) v l) (hv : ∀ k, v.ownBlock = some k → w.heap.size ≤ k) :
    Q (w2.setCell ⟨b, n, none⟩ v) b (YtjkpelbhhapebaaGreatDoor.A.put L n l) (Plus F w (w2.setCell ⟨b, n, none⟩ v)) ∧ Mod F w (w2.setCell ⟨b, n, none⟩ v) := by
  have hF : F b := by obtain ⟨_, _, _, h, _⟩ := hq; exact h
  have hsz : (w2.setCell ⟨b, n, none⟩ v).heap.size = w2.heap.size := by simp [World.setCell]
  refine ⟨((hq.mod hm (by simp)).mono (G := Plus F w (w2.setCell ⟨b, n, none⟩ v)) fun k hk => .inl hk).put n hl ha hr fun k hk => .inr ⟨hv k hk, ?_⟩, (hm.mono (by simp)).setCell (.inl hF) v⟩
  rw [hsz]
  exact hr.lt k hk

end Go.Proofs.YtjkpelbhhapebaaGreatDoor.A
namespace Go.Proofs.YtjkpelbhhapebaaGreatDoor.A
open Go.RowKit
set_option maxRecDepth 100000

set_option maxHeartbeats 1000000 in
theorem add_plain (b : Nat) (n c : Int) (L : Nat → List Int) (F : Nat → Prop) (w : World) (h0 : 0 ≤ n) (h8 : n < 8) (hc16 : U16 c) (hq : Q w b L F) (hp : c ≠ 10496) :
    Calls Tryz.prog 69 #[.pointer (some ⟨b, 0, none⟩), .int .i64 n, .int .u16 c] w fun e w' => e = .returned (.tuple #[]) ∧ Q w' b (put L n.toNat (addL (L n.toNat) c)) (Plus F w w') ∧ Mod F w w' := by
  obtain ⟨A, cap, hc, hfz, -, -, hl8, hu, hr⟩ := hq.at_ n h0 h8
  have hblt := hq.lt
  have hpb : (c == 10496) = false := by simpa using hp
  generalize hl : L n.toNat = l at *
  obtain ⟨len, hlen⟩ : ∃ len, len = l.length := ⟨_, rfl⟩
  rw [← hlen] at hc hr hl8
  have hll8 : l.length ≤ 8 := by rw [← hlen]; exact hl8
  replace hlen := hide hlen
  replace hr := hide hr
  replace hu := hide hu
  replace hq := hide hq
  replace hl := hide hl
  replace hp := hide hp
  go_enter Tryz.func69, Tryz.ntmps69
  go_wp2_with (go_at_call 76; refine (in_some _ _ _).mono ?_; rintro e w' ⟨rfl, rfl⟩)
  go_loop [23] (fun i => ∃ k : Nat, k ≤ len ∧ i = .int .i64 k ∧ Hid (∀ j, j < k → gi l j ≠ c)) (fun i => len - (intOf i).toNat)
  case atStart => exact ⟨0, by omega, rfl, hide (fun j hj => by omega)⟩
  case round =>
    obtain ⟨k, hk, rfl, hno⟩ := hrel
    by_cases hlt : k < len
    · obtain ⟨ad, rfl, hck⟩ := hr.out.int k hlt
      by_cases heq : gi l k = c
      · have hb : (gi l k == c) = true := by simpa using heq
        have hmem : c ∈ l := by rw [← heq]; exact gi_mem (by rw [← hlen.out]; exact hlt)
        replace heq := hide heq
        replace hmem := hide hmem
        go_wp2
        refine bodyPost_ret (results_none rfl _ _ _) rfl ?_
        have e : put L n.toNat (addL l c) = L := by
          funext i
          simp only [put, addL, if_neg hp.out, if_pos hmem.out]
          split
          · rename_i h; rw [h, hl.out]
          · rfl
        rw [e]
        exact ⟨rfl, hq.out.mono fun k hk => .inl hk, Mod.refl _ _⟩
      · have hb : (gi l k == c) = false := by simpa using heq
        replace heq := hide heq
        go_wp2
        go_round
        case rel =>
          refine ⟨k + 1, by omega, by go_num, hide fun j hj => ?_⟩
          by_cases e : j = k
          · subst e; exact heq.out
          · exact hno.out j (by omega)
        case measure => simp [intOf]; omega
    · obtain rfl : k = len := by omega
      have hnm : ¬ c ∈ l := fun h => by obtain ⟨j, hj, e⟩ := mem_gi h; exact hno.out j (by rw [hlen.out]; exact hj) e
      replace hnm := hide hnm
      by_cases h88 : k < 8
      · have e : addL l c = ([] ++ l) ++ [c] := by simp only [addL, if_neg hp.out, if_neg hnm.out, ← hlen.out, if_pos h88, List.nil_append]
        replace e := hide e
        have hbx : Rd (w.alloc (.cells #[.int .u16 c] 30)).drew 1 (ic .u16) (some ⟨w.heap.size, 0, none⟩) 1 [c] := Rd.box w (ic .u16) c 30
        replace hbx := hide hbx
        go_wp2
        go_region_law (first
          | (refine step_app (.const (.slice none 0 0)) (.tmp 36) 146 30 (.int .u16 0) 1 2 (ic .u16) rfl rfl (ic_len _) (ic_one _) Tryz.underlying146 elem27 (.slice none 0 0) [] A k cap l rfl ?_ (Row.nil _ _ _ _) ?_ ?_ ?_ ?_
             (simp [Act.put, Act.eval])
             (first | exact hr.out.drew | exact (hr.out.alloc _).drew)
             (simp [maxLen]; omega)
             (simp; omega)
             intro v1 w1 h1 g1 a1
             have m1 : Keep w w1 := by
               first
                 | exact Mod.grown (Mod.drew (Mod.refl _ w)) g1 (fun _ hk => nomatch hk)
                 | exact Mod.grown (Mod.drew (Mod.alloc (Mod.refl _ w) _)) g1 (fun _ hk => nomatch hk)
             have o1 : ∀ k, v1.ownBlock = some k → w.heap.size ≤ k := by
               intro k hk
               rcases a1 with e | e <;> (rw [e] at hk; simp [Value.ownBlock] at hk)
               omega)
          | (refine step_app (.tmp 37) (.tmp 39) 146 30 (.int .u16 0) 1 2 (ic .u16) rfl rfl (ic_len _) (ic_one _) Tryz.underlying146 elem27 v1 ([] ++ l) (some ⟨w1.heap.size, 0, none⟩) 1 1 [c] ?_ ?_ (h1.alloc _) ?_ ?_ ?_ ?_
             (simp [Act.eval])
             (simp [Act.eval])
             (exact Rd.box _ (ic .u16) c _)
             (simp [maxLen]; omega)
             (simp; omega)
             intro v2 w2 h2 g2 a2
             have m2 : Keep w w2 := Mod.grown (Mod.alloc m1 _) g2 (fun k hk => .inr (o1 k hk))
             have o2 : ∀ k, v2.ownBlock = some k → w.heap.size ≤ k := by
               intro k hk
               rcases a2 with e | e <;> rw [e] at hk
               · exact o1 k hk
               · have := m1.size
                 simp at hk
                 omega
             have hc2 := m2.cell hc (by simp)
             have hf2 : w2.frozen? ⟨b, n.toNat, none⟩ = false := (m2.frozen (p := ⟨b, n.toNat, none⟩) hblt (by simp)).trans hfz
             obtain ⟨A2, n2, cap2, rfl⟩ := h2.form)
          | (refine step_app (.tmp 37) (.tmp 39) 146 30 (.int .u16 0) 1 2 (ic .u16) rfl rfl (ic_len _) (ic_one _) Tryz.underlying146 elem27 v1 ([] ++ l) (some ⟨w.heap.size, 0, none⟩) 1 1 [c] ?_ ?_ h1 ?_ ?_ ?_ ?_
             (simp [Act.eval])
             (simp [Act.eval])
             (exact hbx.out.mod (grown_mod g1) (fun _ _ h => nomatch h))
             (simp [maxLen]; omega)
             (simp; omega)
             intro v2 w2 h2 g2 a2
             have m2 : Keep w w2 := Mod.grown m1 g2 (fun k hk => .inr (o1 k hk))
             have o2 : ∀ k, v2.ownBlock = some k → w.heap.size ≤ k := by
               intro k hk
               rcases a2 with e | e <;> rw [e] at hk
               · exact o1 k hk
               · have := m1.size
                 simp at hk
                 omega
             have hc2 := m2.cell hc (by simp)
             have hf2 : w2.frozen? ⟨b, n.toNat, none⟩ = false := (m2.frozen (p := ⟨b, n.toNat, none⟩) hblt (by simp)).trans hfz
             obtain ⟨A2, n2, cap2, rfl⟩ := h2.form))
        all_goals
          go_end0
          have hs := hq.out.stored m2 n.toNat (by have := hlen.out; simp; omega) (by
            intro x hx
            simp at hx
            rcases hx with hx | rfl
            · exact hu.out x hx
            · exact hc16) h2 o2
          rw [e.out]
          exact ⟨rfl, hs⟩
      · have e : addL l c = l := by simp only [addL, if_neg hp.out, if_neg hnm.out, ← hlen.out, if_neg h88]
        replace e := hide e
        go_wp2
        go_end0
        have e : put L n.toNat (addL l c) = L := by
          funext i
          simp only [put, e.out]
          split
          · rename_i h; rw [h, hl.out]
          · rfl
        rw [e]
        exact ⟨rfl, hq.out.mono fun k hk => .inl hk, Mod.refl _ _⟩

set_option maxHeartbeats 1000000 in
theorem add_power (b : Nat) (n : Int) (L : Nat → List Int) (F : Nat → Prop) (w : World) (h0 : 0 ≤ n) (h8 : n < 8) (hq : Q w b L F) :
    Calls Tryz.prog 69 #[.pointer (some ⟨b, 0, none⟩), .int .i64 n, .int .u16 10496] w fun e w' => e = .returned (.tuple #[]) ∧ Q w' b (put L n.toNat (addL (L n.toNat) 10496)) (Plus F w w') ∧ Mod F w w' := by
  obtain ⟨A, cap, hc, hfz, -, -, hl8, -, -⟩ := hq.at_ n h0 h8
  have hblt := hq.lt
  have e : addL (L n.toNat) 10496 = ([] ++ []) ++ [10496] := rfl
  rw [e]
  clear e
  generalize hl : L n.toNat = l at *
  replace hq := hide hq
  clear hl
  have hbx : Rd (w.alloc (.cells #[.int .u16 10496] 30)).drew 1 (ic .u16) (some ⟨w.heap.size, 0, none⟩) 1 [10496] := Rd.box w (ic .u16) 10496 30
  replace hbx := hide hbx
  go_enter Tryz.func69, Tryz.ntmps69
  go_wp2_with (go_at_call 76; refine (in_some _ _ _).mono ?_; rintro e w' ⟨rfl, rfl⟩)
  go_loop [23] (fun i => i = .int .i64 0) (fun i => 0)
  case atStart => rfl
  case round =>
    subst hrel
    go_wp2
    go_region_law (first
      | (refine step_app (.const (.slice none 0 0)) (.tmp 36) 146 30 (.int .u16 0) 1 2 (ic .u16) rfl rfl (ic_len _) (ic_one _) Tryz.underlying146 elem27 (.slice none 0 0) [] none 0 0 [] rfl ?_ (Row.nil _ _ _ _) ?_ ?_ ?_ ?_
         (simp [Act.put, Act.eval])
         (exact Rd.none_ _ _ _ _)
         (simp)
         (simp)
         intro v1 w1 h1 g1 a1
         have m1 : Keep w w1 := by
           first
             | exact Mod.grown (Mod.drew (Mod.refl _ w)) g1 (fun _ hk => nomatch hk)
             | exact Mod.grown (Mod.drew (Mod.alloc (Mod.refl _ w) _)) g1 (fun _ hk => nomatch hk)
         have o1 : ∀ k, v1.ownBlock = some k → w.heap.size ≤ k := by
           intro k hk
           rcases a1 with e | e <;> (rw [e] at hk; simp [Value.ownBlock] at hk)
           omega)
      | (refine step_app (.tmp 37) (.tmp 39) 146 30 (.int .u16 0) 1 2 (ic .u16) rfl rfl (ic_len _) (ic_one _) Tryz.underlying146 elem27 v1 ([] ++ []) (some ⟨w1.heap.size, 0, none⟩) 1 1 [10496] ?_ ?_ (h1.alloc _) ?_ ?_ ?_ ?_
         (simp [Act.eval])
         (simp [Act.eval])
         (exact Rd.box _ (ic .u16) 10496 _)
         (simp [maxLen])
         (simp)
         intro v2 w2 h2 g2 a2
         have m2 : Keep w w2 := Mod.grown (Mod.alloc m1 _) g2 (fun k hk => .inr (o1 k hk))
         have o2 : ∀ k, v2.ownBlock = some k → w.heap.size ≤ k := by
           intro k hk
           rcases a2 with e | e <;> rw [e] at hk
           · exact o1 k hk
           · have := m1.size
             simp at hk
             omega
         have hc2 := m2.cell hc (by simp)
         have hf2 : w2.frozen? ⟨b, n.toNat, none⟩ = false := (m2.frozen (p := ⟨b, n.toNat, none⟩) hblt (by simp)).trans hfz
         obtain ⟨A2, n2, cap2, rfl⟩ := h2.form)
      | (refine step_app (.tmp 37) (.tmp 39) 146 30 (.int .u16 0) 1 2 (ic .u16) rfl rfl (ic_len _) (ic_one _) Tryz.underlying146 elem27 v1 ([] ++ []) (some ⟨w.heap.size, 0, none⟩) 1 1 [10496] ?_ ?_ h1 ?_ ?_ ?_ ?_
         (simp [Act.eval])
         (simp [Act.eval])
         (exact hbx.out.mod (grown_mod g1) (fun _ _ h => nomatch h))
         (simp [maxLen])
         (simp)
         intro v2 w2 h2 g2 a2
         have m2 : Keep w w2 := Mod.grown m1 g2 (fun k hk => .inr (o1 k hk))
         have o2 : ∀ k, v2.ownBlock = some k → w.heap.size ≤ k := by
           intro k hk
           rcases a2 with e | e <;> rw [e] at hk
           · exact o1 k hk
           · have := m1.size
             simp at hk
             omega
         have hc2 := m2.cell hc (by simp)
         have hf2 : w2.frozen? ⟨b, n.toNat, none⟩ = false := (m2.frozen (p := ⟨b, n.toNat, none⟩) hblt (by simp)).trans hfz
         obtain ⟨A2, n2, cap2, rfl⟩ := h2.form))
    all_goals
      go_end0
      have hs := hq.out.stored m2 n.toNat (by simp) (by
        intro x hx
        simp at hx
        subst hx
        exact ⟨by decide, by decide⟩) h2 o2
      exact ⟨rfl, hs⟩

theorem add_some (b : Nat) (n c : Int) (L : Nat → List Int) (F : Nat → Prop) (w : World) (h0 : 0 ≤ n) (h8 : n < 8) (hc16 : U16 c) (hq : Q w b L F) :
    Calls Tryz.prog 69 #[.pointer (some ⟨b, 0, none⟩), .int .i64 n, .int .u16 c] w fun e w' => e = .returned (.tuple #[]) ∧ Q w' b (put L n.toNat (addL (L n.toNat) c)) (Plus F w w') ∧ Mod F w w' := by
  by_cases h : c = 10496
  · subst h; exact add_power b n L F w h0 h8 hq
  · exact add_plain b n c L F w h0 h8 hc16 hq h

set_option maxHeartbeats 400000 in
theorem add_out (b : Nat) (n c : Int) (w : World) (h : n < 0 ∨ 8 ≤ n) :
    Calls Tryz.prog 69 #[.pointer (some ⟨b, 0, none⟩), .int .i64 n, .int .u16 c] w fun e w' => e = .returned (.tuple #[]) ∧ w = w' := by
  have hin : Calls Tryz.prog 76 #[.pointer (some ⟨b, 0, none⟩), .int .i64 n] w fun e w' => e = .returned (.bool false) ∧ w = w' := by
    refine (in_some _ n w).mono fun e w' hh => ⟨hh.1.trans (ret_bool ?_), hh.2⟩
    simp
    omega
  clear h
  go_enter Tryz.func69, Tryz.ntmps69
  go_wp2_with (go_at_call 76; refine hin.mono ?_; rintro e w' ⟨rfl, rfl⟩)
  refine bodyPost_ret (results_none rfl _ _ _) rfl ?_
  exact ⟨rfl, rfl⟩
end Go.Proofs.YtjkpelbhhapebaaGreatDoor.A
namespace Go.Proofs.YtjkpelbhhapebaaGreatDoor.A
open Go.RowKit
set_option maxRecDepth 100000

set_option maxHeartbeats 400000 in
theorem next_none (p : Option Addr) (n : Int) (w : World) (R : World → Prop)
    (hf : Calls Tryz.prog 49 #[.pointer p, .int .i64 n] w fun e w' => e = .returned (.int .i64 (-1)) ∧ R w') :
    Calls Tryz.prog 24 #[.pointer p, .int .i64 n] w fun e w' => e = .returned (.tuple #[.int .u16 0, .bool false]) ∧ R w' := by
  replace hf := hide hf
  go_enter Tryz.func24, Tryz.ntmps24
  go_wp2_with (go_at_call 49; refine hf.out.mono ?_; rintro e w' ⟨rfl, hR⟩)
  go_ret2
  exact ⟨rfl, hR⟩

theorem pass {w w0 : World} {p1 p2 : Addr} {v1 v2 : Value} {A1 A2 : Option Addr} {n1 n2 m : Nat} {l1 l2 : List Int} (hc : w.cell? p1 = some v1) (hck : w.cell? p2 = some v2) (h1 : Hid (Rd w 1 (ic .u16) A1 n1 l1)) (h2 : Hid (Rd w 1 (ic .u16) A2 n2 l2)) (hm : w0 = w.drewN m) :
    w0.cell? p1 = some v1 ∧ w0.cell? p2 = some v2 ∧ Hid (Keep w w0) ∧ Hid (Rd w0 1 (ic .u16) A1 n1 l1) ∧ Hid (Rd w0 1 (ic .u16) A2 n2 l2) := by
  subst hm
  exact ⟨hc, hck, hide ((Mod.refl _ w).drewN m), h1, h2⟩

set_option maxHeartbeats 1000000 in
theorem next_some (b : Nat) (n : Int) (L : Nat → List Int) (F : Nat → Prop) (w : World) (h0 : 0 ≤ n) (h8 : n < 8) (hq : Q w b L F) (i : Nat) (hi : fi (L n.toNat) (L n.toNat).length = (i : Int)) :
    Calls Tryz.prog 24 #[.pointer (some ⟨b, 0, none⟩), .int .i64 n] w fun e w' =>
      e = .returned (.tuple #[.int .u16 (gi (L n.toNat) i), .bool true]) ∧ Q w' b (put L n.toNat ((L n.toNat).take i ++ (L n.toNat).drop (i + 1))) (Plus F w w') ∧ Mod F w w' := by
  obtain ⟨A, cap, hc, hfz, hcap, hcm, hl8, hu, hr⟩ := hq.at_ n h0 h8
  have hblt := hq.lt
  have hf := first_some b n L F w h0 h8 hq
  obtain ⟨f1, -, -⟩ := fi_lt (L n.toNat) (L n.toNat).length
  rw [hi] at hf f1
  generalize hl : L n.toNat = l at *
  clear hi hl
  have hil : i < l.length := by omega
  obtain ⟨ad, rfl, hck⟩ := hr.int i hil
  obtain ⟨len, hlen⟩ : ∃ len, len = l.length := ⟨_, rfl⟩
  rw [← hlen] at hc hr hl8 hcap hil
  have hll8 : l.length ≤ 8 := by rw [← hlen]; exact hl8
  replace hlen := hide hlen
  have hr1 := hide (hr.take i (by omega))
  have hr2 := hide (hr.cut (i + 1) (by omega) hcap)
  clear hr
  replace hu := hide hu
  replace hq := hide hq
  replace hf := hide hf
  simp only [maxLen] at hcm
  have q1 : i ≤ cap := by omega
  have q2 : IntKind.i64.wrap ((i : Int) + 1) = (i : Int) + 1 := IntWalk.i64_in _ (by omega)
  have q3 : (0 : Int) ≤ (i : Int) + 1 := by omega
  have q4 : ((i : Int) + 1).toNat = i + 1 := by omega
  have q5 : i + 1 ≤ len := by omega
  have q6 : (i : Int) + 1 ≤ (len : Int) := by omega
  go_enter Tryz.func24, Tryz.ntmps24
  go_wp2_with (go_at_call 49; refine hf.out.mono ?_; rintro e w0 ⟨rfl, m, hm⟩; obtain ⟨hc0, hck0, k0, hr10, hr20⟩ := pass hc hck hr1 hr2 hm; clear hm)
  go_region_law (first
    | (refine step_app (.const (.slice none 0 0)) (.tmp 28) 146 30 (.int .u16 0) 1 2 (ic .u16) rfl rfl (ic_len _) (ic_one _) Tryz.underlying146 elem27 (.slice none 0 0) [] (some ad) i cap (l.take i) rfl ?_ (Row.nil _ _ _ _) hr10.out.drew ?_ ?_ ?_
       (simp [Act.put, Act.eval])
       (simp [maxLen]; omega)
       (simp; omega)
       intro v1 w1 h1 g1 a1
       have m1 : Keep w w1 := Mod.grown (Mod.drew k0.out) g1 (fun _ hk => nomatch hk)
       have o1 : ∀ k, v1.ownBlock = some k → w.heap.size ≤ k := by
         intro k hk
         have := k0.out.size
         rcases a1 with e | e <;> (rw [e] at hk; simp [Value.ownBlock] at hk)
         omega)
    | (refine step_app (.tmp 29) (.tmp 33) 146 30 (.int .u16 0) 1 2 (ic .u16) rfl rfl (ic_len _) (ic_one _) Tryz.underlying146 elem27 v1 ([] ++ l.take i) (if cap = i + 1 then some ad else some (ad.add (i + 1))) (len - (i + 1)) (cap - (i + 1)) (l.drop (i + 1)) ?_ ?_ h1 ?_ ?_ ?_ ?_
       (simp [Act.eval])
       (simp [Act.eval, Addr.add])
       (exact hr2.out.mod m1 (fun _ _ h => h))
       (simp [maxLen]; omega)
       (simp; omega)
       intro v2 w2 h2 g2 a2
       have m2 : Keep w w2 := m1.grown g2 (fun k hk => .inr (o1 k hk))
       have o2 : ∀ k, v2.ownBlock = some k → w.heap.size ≤ k := by
         intro k hk
         rcases a2 with e | e <;> rw [e] at hk
         · exact o1 k hk
         · have := m1.size
           simp at hk
           omega
       have hc2 := m2.cell hc (by simp)
       have hf2 : w2.frozen? ⟨b, n.toNat, none⟩ = false := (m2.frozen (p := ⟨b, n.toNat, none⟩) hblt (by simp)).trans hfz
       obtain ⟨A2, n2, cap2, rfl⟩ := h2.form))
  go_wp2
  all_goals
    go_ret2
    have hs := hq.out.stored m2 n.toNat (by have := hlen.out; simp; omega) (by
      intro x hx
      simp only [List.nil_append, List.mem_append] at hx
      rcases hx with hx | hx
      · exact hu.out x (List.mem_of_mem_take hx)
      · exact hu.out x (List.mem_of_mem_drop hx)) h2 o2
    exact ⟨rfl, hs⟩
end Go.Proofs.YtjkpelbhhapebaaGreatDoor.A
namespace Go.Proofs.YtjkpelbhhapebaaGreatDoor.A
open Go.RowKit
set_option maxRecDepth 100000

theorem Q.congr {w : World} {b : Nat} {L L' : Nat → List Int} {F : Nat → Prop} (h : Q w b L F) (he : ∀ i, i < 8 → L i = L' i) : Q w b L' F := by
  obtain ⟨cs, h1, h2, h3, h4⟩ := h
  exact ⟨cs, h1, h2, h3, fun i hi => by rw [← he i hi]; exact h4 i hi⟩

/-- The first k lists behind AddAll. -/
def allTo (L : Nat → List Int) (but c : Int) (k : Nat) : Nat → List Int := fun i => if i < k ∧ (i : Int) ≠ but then addL (L i) c else L i

theorem allTo_skip (L : Nat → List Int) (but c : Int) (k : Nat) (hb : (k : Int) = but) (i : Nat) : allTo L but c k i = allTo L but c (k + 1) i := by
  simp only [allTo]
  by_cases h : i = k
  · subst h; simp [hb]
  · simp only [show (i < k + 1) ↔ (i < k) by omega]
theorem allTo_add (L : Nat → List Int) (but c : Int) (k : Nat) (hb : ¬ (k : Int) = but) (i : Nat) : put (allTo L but c k) k (addL (allTo L but c k k) c) i = allTo L but c (k + 1) i := by
  simp only [allTo, put]
  by_cases h : i = k
  · subst h; simp [hb]
  · simp only [if_neg h, show (i < k + 1) ↔ (i < k) by omega]

set_option maxHeartbeats 400000 in
theorem addAll_some (b : Nat) (but c : Int) (L : Nat → List Int) (F : Nat → Prop) (w : World) (hc : U16 c) (hq : Q w b L F) :
    Calls Tryz.prog 87 #[.pointer (some ⟨b, 0, none⟩), .int .i64 but, .int .u16 c] w fun e w' => e = .returned (.tuple #[]) ∧ Q w' b (allTo L but c 8) (Plus F w w') ∧ Mod F w w' := by
  replace hq := hide hq
  replace hc := hide hc
  go_enter Tryz.func87, Tryz.ntmps87
  go_wp2_with fail
  go_loopw [7] (fun i wr => ∃ k : Nat, k ≤ 8 ∧ i = .int .i64 k ∧ Hid (Q wr b (allTo L but c k) (Plus F w wr) ∧ Mod F w wr)) (fun i _ => 8 - (intOf i).toNat)
  case atStart => exact ⟨0, by omega, rfl, hide ⟨(hq.out.mono fun k hk => .inl hk).congr fun i _ => by simp [allTo], Mod.refl _ _⟩⟩
  case round =>
    obtain ⟨k, hk, rfl, hR⟩ := hrel
    by_cases hlt : k < 8
    · by_cases hb : (k : Int) = but
      · have hbb : ((k : Int) != but) = false := by simpa using hb
        have e : ∀ i, i < 8 → allTo L but c k i = allTo L but c (k + 1) i := fun i _ => allTo_skip L but c k hb i
        replace hb := hide hb
        replace e := hide e
        go_wp2_with fail
        go_roundw
        case rel => exact ⟨k + 1, by omega, by go_num, hide ⟨hR.out.1.congr e.out, hR.out.2⟩⟩
        case measure => simp [intOf]; omega
      · have hbb : ((k : Int) != but) = true := by simpa using hb
        have e : ∀ i, i < 8 → put (allTo L but c k) k (addL (allTo L but c k k) c) i = allTo L but c (k + 1) i := fun i _ => allTo_add L but c k hb i
        replace hb := hide hb
        replace e := hide e
        have ha := add_some b k c _ _ wr (by omega) (by omega) hc.out hR.out.1
        replace ha := hide ha
        go_wp2_with (go_at_call 69; refine ha.out.mono ?_; rintro e w' ⟨rfl, hq1, hm1⟩; replace hq1 := hide hq1)
        go_roundw
        case rel =>
          have h1 := hR.out.2
          refine ⟨k + 1, by omega, by go_num, hide ⟨((hq1.out.mono (Plus.plus h1.size hm1.size)).congr (by simpa using e.out)), h1.plus hm1⟩⟩
        case measure => simp [intOf]; omega
    · obtain rfl : k = 8 := by omega
      go_wp2_with fail
      go_end0
      exact ⟨rfl, hR.out⟩

theorem Q.big {w w' : World} {b B : Nat} {L : Nat → List Int} (h : Q w' b L (Plus (fun k => B ≤ k) w w')) (hB : B ≤ w.heap.size) : Q w' b L (fun k => B ≤ k) :=
  h.mono fun k hk => by
    rcases hk with hk | ⟨hk, _⟩
    · exact hk
    · show B ≤ k
      omega
theorem add_big (b B : Nat) (n c : Int) (L : Nat → List Int) (w : World) (h0 : 0 ≤ n) (h8 : n < 8) (hc16 : U16 c) (hB : B ≤ w.heap.size) (hq : Q w b L (fun k => B ≤ k)) :
    Calls Tryz.prog 69 #[.pointer (some ⟨b, 0, none⟩), .int .i64 n, .int .u16 c] w fun e w' => e = .returned (.tuple #[]) ∧ Q w' b (put L n.toNat (addL (L n.toNat) c)) (fun k => B ≤ k) ∧ Below B w w' :=
  (add_some b n c L _ w h0 h8 hc16 hq).mono fun _ _ ⟨he, h1, h2⟩ => ⟨he, h1.big hB, h2.below hB fun _ hk => hk⟩
theorem addAll_big (b B : Nat) (but c : Int) (L : Nat → List Int) (w : World) (hc16 : U16 c) (hB : B ≤ w.heap.size) (hq : Q w b L (fun k => B ≤ k)) :
    Calls Tryz.prog 87 #[.pointer (some ⟨b, 0, none⟩), .int .i64 but, .int .u16 c] w fun e w' => e = .returned (.tuple #[]) ∧ Q w' b (allTo L but c 8) (fun k => B ≤ k) ∧ Below B w w' :=
  (addAll_some b but c L _ w hc16 hq).mono fun _ _ ⟨he, h1, h2⟩ => ⟨he, h1.big hB, h2.below hB fun _ hk => hk⟩
theorem next_big (b B : Nat) (n : Int) (L : Nat → List Int) (w : World) (h0 : 0 ≤ n) (h8 : n < 8) (hB : B ≤ w.heap.size) (hq : Q w b L (fun k => B ≤ k)) (i : Nat) (hi : fi (L n.toNat) (L n.toNat).length = (i : Int)) :
    Calls Tryz.prog 24 #[.pointer (some ⟨b, 0, none⟩), .int .i64 n] w fun e w' =>
      e = .returned (.tuple #[.int .u16 (gi (L n.toNat) i), .bool true]) ∧ Q w' b (put L n.toNat ((L n.toNat).take i ++ (L n.toNat).drop (i + 1))) (fun k => B ≤ k) ∧ Below B w w' :=
  (next_some b n L _ w h0 h8 hq i hi).mono fun _ _ ⟨he, h1, h2⟩ => ⟨he, h1.big hB, h2.below hB fun _ hk => hk⟩
theorem new_big (B : Nat) (w : World) (hB : B ≤ w.heap.size) :
    Calls Tryz.prog 39 #[] w fun e w' => e = .returned (.pointer (some ⟨w.heap.size, 0, none⟩)) ∧ Q w' w.heap.size (fun _ => []) (fun k => B ≤ k) ∧ Below B w w' :=
  (new_any w).mono fun _ _ ⟨he, h1, h2⟩ => ⟨he, h1.mono fun k hk => by
    rcases hk with hk | ⟨hk, _⟩
    · exact hk.elim
    · show B ≤ k
      omega, h2.below hB fun _ hk => hk.elim⟩
/-- What waits stays while only draws are made. -/
theorem Q.drewN {w : World} {b : Nat} {L : Nat → List Int} {F : Nat → Prop} (h : Q w b L F) (n : Nat) : Q (w.drewN n) b L F := h
theorem next_empty (b : Nat) (n : Int) (L : Nat → List Int) (F : Nat → Prop) (w : World) (h0 : 0 ≤ n) (h8 : n < 8) (hq : Q w b L F) (he : L n.toNat = []) :
    Calls Tryz.prog 24 #[.pointer (some ⟨b, 0, none⟩), .int .i64 n] w fun e w' => e = .returned (.tuple #[.int .u16 0, .bool false]) ∧ ∃ m, w' = w.drewN m :=
  next_none _ n w (fun w' => ∃ m, w' = w.drewN m) ((first_some b n L F w h0 h8 hq).mono fun e w' h => by rw [he] at h; exact h)
theorem peek_empty (b : Nat) (n : Int) (L : Nat → List Int) (F : Nat → Prop) (w : World) (h0 : 0 ≤ n) (h8 : n < 8) (hq : Q w b L F) (he : L n.toNat = []) :
    Calls Tryz.prog 23 #[.pointer (some ⟨b, 0, none⟩), .int .i64 n] w fun e w' => e = .returned (.tuple #[.int .u16 0, .bool false]) ∧ ∃ m, w' = w.drewN m :=
  peek_none _ n w (fun w' => ∃ m, w' = w.drewN m) ((first_some b n L F w h0 h8 hq).mono fun e w' h => by rw [he] at h; exact h)
theorem next_out (p : Option Addr) (n : Int) (w : World) (h : p = none ∨ n < 0 ∨ 8 ≤ n) :
    Calls Tryz.prog 24 #[.pointer p, .int .i64 n] w fun e w' => e = .returned (.tuple #[.int .u16 0, .bool false]) ∧ w = w' :=
  next_none p n w (fun w' => w = w') (first_out p n w h)
theorem peek_out (p : Option Addr) (n : Int) (w : World) (h : p = none ∨ n < 0 ∨ 8 ≤ n) :
    Calls Tryz.prog 23 #[.pointer p, .int .i64 n] w fun e w' => e = .returned (.tuple #[.int .u16 0, .bool false]) ∧ w = w' :=
  peek_none p n w (fun w' => w = w') (first_out p n w h)

/-- All that is new may count as the queues' own. -/
theorem Q.grow {w w' : World} {b : Nat} {L : Nat → List Int} {F : Nat → Prop} (h : Q w' b L (Plus F w w')) (hF : ∀ k, w.heap.size ≤ k → F k) : Q w' b L F :=
  h.mono fun k hk => by
    rcases hk with hk | ⟨hk, _⟩
    · exact hk
    · exact hF k hk
theorem Q.bound {w : World} {b : Nat} {L : Nat → List Int} {F : Nat → Prop} (h : Q w b L F) : Q w b L (fun k => F k ∧ k < w.heap.size) := by
  obtain ⟨cs, h1, h2, h3, h4⟩ := h
  refine ⟨cs, h1, h2, ⟨h3, (Array.getElem?_eq_some_iff.1 h1).1⟩, fun i hi => ?_⟩
  obtain ⟨k1, k2, v, k3, k4, k5⟩ := h4 i hi
  exact ⟨k1, k2, v, k3, k4, fun k hk => ⟨k5 k hk, k4.lt k hk⟩⟩
theorem Q.all16 {w : World} {b : Nat} {L : Nat → List Int} {F : Nat → Prop} (h : Q w b L F) (i : Nat) (hi : i < 8) : All16 (L i) := by
  obtain ⟨_, _, _, _, h4⟩ := h
  exact (h4 i hi).2.1
theorem Q.len8 {w : World} {b : Nat} {L : Nat → List Int} {F : Nat → Prop} (h : Q w b L F) (i : Nat) (hi : i < 8) : (L i).length ≤ 8 := by
  obtain ⟨_, _, _, _, h4⟩ := h
  exact (h4 i hi).1

/-! ### Plain laws -/
theorem addL_nodup {l : List Int} (h : l.Nodup) (c : Int) : (addL l c).Nodup := by
  unfold addL
  split
  · simp
  · split
    · exact h
    · split
      · rename_i hn _
        rw [List.nodup_append]
        exact ⟨h, by simp, fun a ha b hb e => by simp at hb; subst hb; subst e; exact hn ha⟩
      · exact h
theorem fi_min (l : List Int) : ∀ k j, j < k → rk (gi l (fi l k).toNat) ≤ rk (gi l j)
  | 0, j, h => by omega
  | k + 1, j, h => by
    have ih := fi_min l k
    obtain ⟨f1, f2, f3⟩ := fi_lt l k
    simp only [fi]
    by_cases hc : fi l k < 0 ∨ rk (gi l k) < rk (gi l (fi l k).toNat)
    · rw [if_pos hc, Int.toNat_natCast]
      by_cases e : j = k
      · subst e; exact Int.le_refl _
      · have := ih j (by omega)
        rcases hc with hc | hc
        · have := f3 (by omega); omega
        · omega
    · rw [if_neg hc]
      by_cases e : j = k
      · subst e; omega
      · exact ih j (by omega)
/-- The first k of twelve codes, of which eight wait. -/
def runL (x : Int) (k : Nat) : List Int := (List.range (min k 8)).map fun (j : Nat) => x + (j : Int)
theorem runL_length (x : Int) (k : Nat) : (runL x k).length = min k 8 := by simp [runL]
theorem runL_gi (x : Int) (k j : Nat) (h : j < min k 8) : gi (runL x k) j = x + j := by
  rw [gi_eq _ _ (by rw [runL_length]; exact h)]
  simp [runL]
theorem runL_add (x : Int) (k : Nat) (hx : 12288 ≤ x) : addL (runL x k) (x + k) = runL x (k + 1) := by
  have hm : ¬ (x + (k : Int)) ∈ runL x k := by
    simp only [runL, List.mem_map, List.mem_range]
    rintro ⟨j, hj, e⟩
    omega
  unfold addL
  rw [if_neg (by omega), if_neg hm, runL_length]
  by_cases h : k < 8
  · rw [if_pos (by omega)]
    have e1 : min k 8 = k := by omega
    have e2 : min (k + 1) 8 = k + 1 := by omega
    simp [runL, e1, e2, List.range_succ]
  · rw [if_neg (by omega)]
    have e1 : min k 8 = 8 := by omega
    have e2 : min (k + 1) 8 = 8 := by omega
    simp [runL, e1, e2]
theorem rk_three (c : Int) (h : 12288 ≤ c) : rk c = 3 := by
  unfold rk
  rw [if_neg (by omega), if_neg (by omega), if_neg (by omega)]
theorem fi_three (l : List Int) : ∀ k, 0 < k → (∀ j, j < k → 12288 ≤ gi l j) → fi l k = 0
  | 0, h0, _ => by omega
  | 1, _, _ => by simp [fi]
  | k + 2, _, h => by
    have ih := fi_three l (k + 1) (by omega) fun j hj => h j (by omega)
    rw [fi, ih]
    simp only [Int.toNat_zero, rk_three _ (h _ (by omega : k + 1 < k + 2)), rk_three _ (h 0 (by omega))]
    rw [if_neg (by omega)]
/-- The eight codes, one by one. -/
def eight (x : Int) : List Int := [x, x + 1, x + 2, x + 3, x + 4, x + 5, x + 6, x + 7]
def seven (x : Int) : List Int := [x + 1, x + 2, x + 3, x + 4, x + 5, x + 6, x + 7]
theorem runL_eight (x : Int) : runL x 12 = eight x := by simp [runL, eight, List.range_succ]
theorem eight_gi (x : Int) (j : Nat) (h : j < 8) : gi (eight x) j = x + j := by
  rw [← runL_eight]; exact runL_gi x 12 j (by omega)
theorem seven_gi (x : Int) (j : Nat) (h : j < 7) : gi (seven x ++ [12032]) j = x + 1 + j := by
  match j, h with
  | 0, _ | 1, _ | 2, _ | 3, _ | 4, _ | 5, _ | 6, _ => simp [gi, seven]; try omega
theorem eight_fi (x : Int) (h : 12288 ≤ x) : fi (eight x) (eight x).length = ((0 : Nat) : Int) :=
  fi_three _ _ (by simp [eight]) fun j hj => by rw [eight_gi x j hj]; omega
theorem seven_fi (x : Int) (h : 12288 ≤ x) : fi (seven x ++ [12032]) (seven x ++ [12032]).length = 7 := by
  have h7 : fi (seven x ++ [12032]) 7 = 0 := fi_three _ _ (by omega) fun j hj => by rw [seven_gi x j hj]; omega
  show fi _ (7 + 1) = 7
  have h0 : rk (gi (seven x ++ [12032]) 0) = 3 := by rw [seven_gi x 0 (by omega)]; exact rk_three _ (by omega)
  rw [fi, h7, Int.toNat_zero, h0]
  rw [if_pos (.inr (show rk 12032 < 3 by decide))]
  rfl
theorem seven_add (x : Int) (h : 12288 ≤ x) : addL (seven x) 12032 = seven x ++ [12032] := by
  unfold addL
  rw [if_neg (by decide), if_neg (by simp [seven]; omega), if_pos (by simp [seven])]
theorem seven_full (x : Int) : addL (seven x ++ [12032]) 12033 = seven x ++ [12032] := by
  unfold addL
  rw [if_neg (by decide)]
  split
  · rfl
  · rw [if_neg (by simp [seven])]
theorem rk_nonneg (c : Int) : 0 ≤ rk c := by
  unfold rk
  split
  · decide
  · split
    · decide
    · split <;> decide
theorem fi_zero (l : List Int) (h : rk (gi l 0) = 0) : ∀ k, 0 < k → fi l k = 0
  | 0, h0 => by omega
  | 1, _ => by simp [fi]
  | k + 2, _ => by
    have ih := fi_zero l h (k + 1) (by omega)
    have := rk_nonneg (gi l (k + 1))
    rw [fi, ih]
    simp only [Int.toNat_zero, h]
    rw [if_neg (by omega)]
theorem count_one {l : List Int} (h : l.Nodup) {c : Int} (hc : c ∈ l) : l.count c = 1 := by
  have h1 := List.count_pos_iff.2 hc
  have h2 := List.nodup_iff_count.1 h c
  omega
theorem take_count (l : List Int) (c : Int) (j : Nat) (h : j < l.length) : (l.take (j + 1)).count c = (l.take j).count c + if gi l j = c then 1 else 0 := by
  rw [List.take_succ_eq_append_getElem h, List.count_append, gi_eq l j h]
  by_cases e : l[j] = c <;> simp [e]
theorem mem_cut {l : List Int} {i : Nat} {x : Int} (h : x ∈ l.take i ++ l.drop (i + 1)) : x ∈ l := by
  rw [List.mem_append] at h
  rcases h with h | h
  · exact List.mem_of_mem_take h
  · exact List.mem_of_mem_drop h
theorem cut_length {l : List Int} {i : Nat} (h : i < l.length) : (l.take i ++ l.drop (i + 1)).length + 1 = l.length := by
  simp; omega
end Go.Proofs.YtjkpelbhhapebaaGreatDoor.A
