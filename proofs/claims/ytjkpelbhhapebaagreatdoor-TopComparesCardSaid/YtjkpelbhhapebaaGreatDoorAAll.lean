/-
  The walks of (*attn.Queues).AddAll and of the laws' awake. Conditions: queues that read as lists of at most eight codes, a code within its kind.
-/
import Derived.Test.YtjkpelbhhapebaaGreatDoorAAdd
import Derived.Test.YtjkpelbhhapebaaGreatDoorANext
namespace Go.Proofs.YtjkpelbhhapebaaGreatDoor.A
open Go.RowKit
set_option maxRecDepth 100000

theorem Q.congr {w : World} {b : Nat} {L L' : Nat → List Int} {F : Nat → Prop} (h : Q w b L F) (he : ∀ i, i < 8 → L i = L' i) : Q w b L' F := by
  obtain ⟨cs, h1, h2, h3, h4⟩ := h
  exact ⟨cs, h1, h2, h3, fun i hi => by rw [← he i hi]; exact h4 i hi⟩

/-- The first k lists behind AddAll. -/
def allTo (L : Nat → List Int) (but c : Int) (k : Nat) : Nat → List Int := fun i => if i < k ∧ (i : Int) ≠ but then addL (L i) c else L i

theorem allTo_skip (L : Nat → List Int) (but c : Int) (k : Nat) (hb : (k : Int) = but) (i : Nat) : allTo L but c k i = allTo L but c (k + 1) i := by
  simp only [allTo]
  by_cases h : i = k
  · subst h; simp [hb]
  · simp only [show (i < k + 1) ↔ (i < k) by omega]
theorem allTo_add (L : Nat → List Int) (but c : Int) (k : Nat) (hb : ¬ (k : Int) = but) (i : Nat) : put (allTo L but c k) k (addL (allTo L but c k k) c) i = allTo L but c (k + 1) i := by
  simp only [allTo, put]
  by_cases h : i = k
  · subst h; simp [hb]
  · simp only [if_neg h, show (i < k + 1) ↔ (i < k) by omega]

set_option maxHeartbeats 400000 in
theorem addAll_some (b : Nat) (but c : Int) (L : Nat → List Int) (F : Nat → Prop) (w : World) (hc : U16 c) (hq : Q w b L F) :
    Calls Tryz.prog 87 #[.pointer (some ⟨b, 0, none⟩), .int .i64 but, .int .u16 c] w fun e w' => e = .returned (.tuple #[]) ∧ Q w' b (allTo L but c 8) (Plus F w w') ∧ Mod F w w' := by
  replace hq := hide hq
  replace hc := hide hc
  go_enter Tryz.func87, Tryz.ntmps87
  go_wp2_with fail
  go_loopw [7] (fun i wr => ∃ k : Nat, k ≤ 8 ∧ i = .int .i64 k ∧ Hid (Q wr b (allTo L but c k) (Plus F w wr) ∧ Mod F w wr)) (fun i _ => 8 - (intOf i).toNat)
  case atStart => exact ⟨0, by omega, rfl, hide ⟨(hq.out.mono fun k hk => .inl hk).congr fun i _ => by simp [allTo], Mod.refl _ _⟩⟩
  case round =>
    obtain ⟨k, hk, rfl, hR⟩ := hrel
    by_cases hlt : k < 8
    · by_cases hb : (k : Int) = but
      · have hbb : ((k : Int) != but) = false := by simpa using hb
        have e : ∀ i, i < 8 → allTo L but c k i = allTo L but c (k + 1) i := fun i _ => allTo_skip L but c k hb i
        replace hb := hide hb
        replace e := hide e
        go_wp2_with fail
        go_roundw
        case rel => exact ⟨k + 1, by omega, by go_num, hide ⟨hR.out.1.congr e.out, hR.out.2⟩⟩
        case measure => simp [intOf]; omega
      · have hbb : ((k : Int) != but) = true := by simpa using hb
        have e : ∀ i, i < 8 → put (allTo L but c k) k (addL (allTo L but c k k) c) i = allTo L but c (k + 1) i := fun i _ => allTo_add L but c k hb i
        replace hb := hide hb
        replace e := hide e
        have ha := add_some b k c _ _ wr (by omega) (by omega) hc.out hR.out.1
        replace ha := hide ha
        go_wp2_with (go_at_call 69; refine ha.out.mono ?_; rintro e w' ⟨rfl, hq1, hm1⟩; replace hq1 := hide hq1)
        go_roundw
        case rel =>
          have h1 := hR.out.2
          refine ⟨k + 1, by omega, by go_num, hide ⟨((hq1.out.mono (Plus.plus h1.size hm1.size)).congr (by simpa using e.out)), h1.plus hm1⟩⟩
        case measure => simp [intOf]; omega
    · obtain rfl : k = 8 := by omega
      go_wp2_with fail
      go_end0
      exact ⟨rfl, hR.out⟩

theorem Q.big {w w' : World} {b B : Nat} {L : Nat → List Int} (h : Q w' b L (Plus (fun k => B ≤ k) w w')) (hB : B ≤ w.heap.size) : Q w' b L (fun k => B ≤ k) :=
  h.mono fun k hk => by
    rcases hk with hk | ⟨hk, _⟩
    · exact hk
    · show B ≤ k
      omega
theorem add_big (b B : Nat) (n c : Int) (L : Nat → List Int) (w : World) (h0 : 0 ≤ n) (h8 : n < 8) (hc16 : U16 c) (hB : B ≤ w.heap.size) (hq : Q w b L (fun k => B ≤ k)) :
    Calls Tryz.prog 69 #[.pointer (some ⟨b, 0, none⟩), .int .i64 n, .int .u16 c] w fun e w' => e = .returned (.tuple #[]) ∧ Q w' b (put L n.toNat (addL (L n.toNat) c)) (fun k => B ≤ k) ∧ Below B w w' :=
  (add_some b n c L _ w h0 h8 hc16 hq).mono fun _ _ ⟨he, h1, h2⟩ => ⟨he, h1.big hB, h2.below hB fun _ hk => hk⟩
theorem addAll_big (b B : Nat) (but c : Int) (L : Nat → List Int) (w : World) (hc16 : U16 c) (hB : B ≤ w.heap.size) (hq : Q w b L (fun k => B ≤ k)) :
    Calls Tryz.prog 87 #[.pointer (some ⟨b, 0, none⟩), .int .i64 but, .int .u16 c] w fun e w' => e = .returned (.tuple #[]) ∧ Q w' b (allTo L but c 8) (fun k => B ≤ k) ∧ Below B w w' :=
  (addAll_some b but c L _ w hc16 hq).mono fun _ _ ⟨he, h1, h2⟩ => ⟨he, h1.big hB, h2.below hB fun _ hk => hk⟩
theorem next_big (b B : Nat) (n : Int) (L : Nat → List Int) (w : World) (h0 : 0 ≤ n) (h8 : n < 8) (hB : B ≤ w.heap.size) (hq : Q w b L (fun k => B ≤ k)) (i : Nat) (hi : fi (L n.toNat) (L n.toNat).length = (i : Int)) :
    Calls Tryz.prog 24 #[.pointer (some ⟨b, 0, none⟩), .int .i64 n] w fun e w' =>
      e = .returned (.tuple #[.int .u16 (gi (L n.toNat) i), .bool true]) ∧ Q w' b (put L n.toNat ((L n.toNat).take i ++ (L n.toNat).drop (i + 1))) (fun k => B ≤ k) ∧ Below B w w' :=
  (next_some b n L _ w h0 h8 hq i hi).mono fun _ _ ⟨he, h1, h2⟩ => ⟨he, h1.big hB, h2.below hB fun _ hk => hk⟩
theorem new_big (B : Nat) (w : World) (hB : B ≤ w.heap.size) :
    Calls Tryz.prog 39 #[] w fun e w' => e = .returned (.pointer (some ⟨w.heap.size, 0, none⟩)) ∧ Q w' w.heap.size (fun _ => []) (fun k => B ≤ k) ∧ Below B w w' :=
  (new_any w).mono fun _ _ ⟨he, h1, h2⟩ => ⟨he, h1.mono fun k hk => by
    rcases hk with hk | ⟨hk, _⟩
    · exact hk.elim
    · show B ≤ k
      omega, h2.below hB fun _ hk => hk.elim⟩
/-- What waits stays while only draws are made. -/
theorem Q.drewN {w : World} {b : Nat} {L : Nat → List Int} {F : Nat → Prop} (h : Q w b L F) (n : Nat) : Q (w.drewN n) b L F := h
theorem next_empty (b : Nat) (n : Int) (L : Nat → List Int) (F : Nat → Prop) (w : World) (h0 : 0 ≤ n) (h8 : n < 8) (hq : Q w b L F) (he : L n.toNat = []) :
    Calls Tryz.prog 24 #[.pointer (some ⟨b, 0, none⟩), .int .i64 n] w fun e w' => e = .returned (.tuple #[.int .u16 0, .bool false]) ∧ ∃ m, w' = w.drewN m :=
  next_none _ n w (fun w' => ∃ m, w' = w.drewN m) ((first_some b n L F w h0 h8 hq).mono fun e w' h => by rw [he] at h; exact h)
theorem peek_empty (b : Nat) (n : Int) (L : Nat → List Int) (F : Nat → Prop) (w : World) (h0 : 0 ≤ n) (h8 : n < 8) (hq : Q w b L F) (he : L n.toNat = []) :
    Calls Tryz.prog 23 #[.pointer (some ⟨b, 0, none⟩), .int .i64 n] w fun e w' => e = .returned (.tuple #[.int .u16 0, .bool false]) ∧ ∃ m, w' = w.drewN m :=
  peek_none _ n w (fun w' => ∃ m, w' = w.drewN m) ((first_some b n L F w h0 h8 hq).mono fun e w' h => by rw [he] at h; exact h)
theorem next_out (p : Option Addr) (n : Int) (w : World) (h : p = none ∨ n < 0 ∨ 8 ≤ n) :
    Calls Tryz.prog 24 #[.pointer p, .int .i64 n] w fun e w' => e = .returned (.tuple #[.int .u16 0, .bool false]) ∧ w = w' :=
  next_none p n w (fun w' => w = w') (first_out p n w h)
theorem peek_out (p : Option Addr) (n : Int) (w : World) (h : p = none ∨ n < 0 ∨ 8 ≤ n) :
    Calls Tryz.prog 23 #[.pointer p, .int .i64 n] w fun e w' => e = .returned (.tuple #[.int .u16 0, .bool false]) ∧ w = w' :=
  peek_none p n w (fun w' => w = w') (first_out p n w h)

/-- All that is new may count as the queues' own. -/
theorem Q.grow {w w' : World} {b : Nat} {L : Nat → List Int} {F : Nat → Prop} (h : Q w' b L (Plus F w w')) (hF : ∀ k, w.heap.size ≤ k → F k) : Q w' b L F :=
  h.mono fun k hk => by
    rcases hk with hk | ⟨hk, _⟩
    · exact hk
    · exact hF k hk
theorem Q.bound {w : World} {b : Nat} {L : Nat → List Int} {F : Nat → Prop} (h : Q w b L F) : Q w b L (fun k => F k ∧ k < w.heap.size) := by
  obtain ⟨cs, h1, h2, h3, h4⟩ := h
  refine ⟨cs, h1, h2, ⟨h3, (Array.getElem?_eq_some_iff.1 h1).1⟩, fun i hi => ?_⟩
  obtain ⟨k1, k2, v, k3, k4, k5⟩ := h4 i hi
  exact ⟨k1, k2, v, k3, k4, fun k hk => ⟨k5 k hk, k4.lt k hk⟩⟩
theorem Q.all16 {w : World} {b : Nat} {L : Nat → List Int} {F : Nat → Prop} (h : Q w b L F) (i : Nat) (hi : i < 8) : All16 (L i) := by
  obtain ⟨_, _, _, _, h4⟩ := h
  exact (h4 i hi).2.1
theorem Q.len8 {w : World} {b : Nat} {L : Nat → List Int} {F : Nat → Prop} (h : Q w b L F) (i : Nat) (hi : i < 8) : (L i).length ≤ 8 := by
  obtain ⟨_, _, _, _, h4⟩ := h
  exact (h4 i hi).1

/-! ### Plain laws -/
theorem addL_nodup {l : List Int} (h : l.Nodup) (c : Int) : (addL l c).Nodup := by
  unfold addL
  split
  · simp
  · split
    · exact h
    · split
      · rename_i hn _
        rw [List.nodup_append]
        exact ⟨h, by simp, fun a ha b hb e => by simp at hb; subst hb; subst e; exact hn ha⟩
      · exact h
theorem fi_min (l : List Int) : ∀ k j, j < k → rk (gi l (fi l k).toNat) ≤ rk (gi l j)
  | 0, j, h => by omega
  | k + 1, j, h => by
    have ih := fi_min l k
    obtain ⟨f1, f2, f3⟩ := fi_lt l k
    simp only [fi]
    by_cases hc : fi l k < 0 ∨ rk (gi l k) < rk (gi l (fi l k).toNat)
    · rw [if_pos hc, Int.toNat_natCast]
      by_cases e : j = k
      · subst e; exact Int.le_refl _
      · have := ih j (by omega)
        rcases hc with hc | hc
        · have := f3 (by omega); omega
        · omega
    · rw [if_neg hc]
      by_cases e : j = k
      · subst e; omega
      · exact ih j (by omega)
/-- The first k of twelve codes, of which eight wait. -/
def runL (x : Int) (k : Nat) : List Int := (List.range (min k 8)).map fun (j : Nat) => x + (j : Int)
theorem runL_length (x : Int) (k : Nat) : (runL x k).length = min k 8 := by simp [runL]
theorem runL_gi (x : Int) (k j : Nat) (h : j < min k 8) : gi (runL x k) j = x + j := by
  rw [gi_eq _ _ (by rw [runL_length]; exact h)]
  simp [runL]
theorem runL_add (x : Int) (k : Nat) (hx : 12288 ≤ x) : addL (runL x k) (x + k) = runL x (k + 1) := by
  have hm : ¬ (x + (k : Int)) ∈ runL x k := by
    simp only [runL, List.mem_map, List.mem_range]
    rintro ⟨j, hj, e⟩
    omega
  unfold addL
  rw [if_neg (by omega), if_neg hm, runL_length]
  by_cases h : k < 8
  · rw [if_pos (by omega)]
    have e1 : min k 8 = k := by omega
    have e2 : min (k + 1) 8 = k + 1 := by omega
    simp [runL, e1, e2, List.range_succ]
  · rw [if_neg (by omega)]
    have e1 : min k 8 = 8 := by omega
    have e2 : min (k + 1) 8 = 8 := by omega
    simp [runL, e1, e2]
theorem rk_three (c : Int) (h : 12288 ≤ c) : rk c = 3 := by
  unfold rk
  rw [if_neg (by omega), if_neg (by omega), if_neg (by omega)]
theorem fi_three (l : List Int) : ∀ k, 0 < k → (∀ j, j < k → 12288 ≤ gi l j) → fi l k = 0
  | 0, h0, _ => by omega
  | 1, _, _ => by simp [fi]
  | k + 2, _, h => by
    have ih := fi_three l (k + 1) (by omega) fun j hj => h j (by omega)
    rw [fi, ih]
    simp only [Int.toNat_zero, rk_three _ (h _ (by omega : k + 1 < k + 2)), rk_three _ (h 0 (by omega))]
    rw [if_neg (by omega)]
/-- The eight codes, one by one. -/
def eight (x : Int) : List Int := [x, x + 1, x + 2, x + 3, x + 4, x + 5, x + 6, x + 7]
def seven (x : Int) : List Int := [x + 1, x + 2, x + 3, x + 4, x + 5, x + 6, x + 7]
theorem runL_eight (x : Int) : runL x 12 = eight x := by simp [runL, eight, List.range_succ]
theorem eight_gi (x : Int) (j : Nat) (h : j < 8) : gi (eight x) j = x + j := by
  rw [← runL_eight]; exact runL_gi x 12 j (by omega)
theorem seven_gi (x : Int) (j : Nat) (h : j < 7) : gi (seven x ++ [12032]) j = x + 1 + j := by
  match j, h with
  | 0, _ | 1, _ | 2, _ | 3, _ | 4, _ | 5, _ | 6, _ => simp [gi, seven]; try omega
theorem eight_fi (x : Int) (h : 12288 ≤ x) : fi (eight x) (eight x).length = ((0 : Nat) : Int) :=
  fi_three _ _ (by simp [eight]) fun j hj => by rw [eight_gi x j hj]; omega
theorem seven_fi (x : Int) (h : 12288 ≤ x) : fi (seven x ++ [12032]) (seven x ++ [12032]).length = 7 := by
  have h7 : fi (seven x ++ [12032]) 7 = 0 := fi_three _ _ (by omega) fun j hj => by rw [seven_gi x j hj]; omega
  show fi _ (7 + 1) = 7
  have h0 : rk (gi (seven x ++ [12032]) 0) = 3 := by rw [seven_gi x 0 (by omega)]; exact rk_three _ (by omega)
  rw [fi, h7, Int.toNat_zero, h0]
  rw [if_pos (.inr (show rk 12032 < 3 by decide))]
  rfl
theorem seven_add (x : Int) (h : 12288 ≤ x) : addL (seven x) 12032 = seven x ++ [12032] := by
  unfold addL
  rw [if_neg (by decide), if_neg (by simp [seven]; omega), if_pos (by simp [seven])]
theorem seven_full (x : Int) : addL (seven x ++ [12032]) 12033 = seven x ++ [12032] := by
  unfold addL
  rw [if_neg (by decide)]
  split
  · rfl
  · rw [if_neg (by simp [seven])]
theorem rk_nonneg (c : Int) : 0 ≤ rk c := by
  unfold rk
  split
  · decide
  · split
    · decide
    · split <;> decide
theorem fi_zero (l : List Int) (h : rk (gi l 0) = 0) : ∀ k, 0 < k → fi l k = 0
  | 0, h0 => by omega
  | 1, _ => by simp [fi]
  | k + 2, _ => by
    have ih := fi_zero l h (k + 1) (by omega)
    have := rk_nonneg (gi l (k + 1))
    rw [fi, ih]
    simp only [Int.toNat_zero, h]
    rw [if_neg (by omega)]
theorem count_one {l : List Int} (h : l.Nodup) {c : Int} (hc : c ∈ l) : l.count c = 1 := by
  have h1 := List.count_pos_iff.2 hc
  have h2 := List.nodup_iff_count.1 h c
  omega
theorem take_count (l : List Int) (c : Int) (j : Nat) (h : j < l.length) : (l.take (j + 1)).count c = (l.take j).count c + if gi l j = c then 1 else 0 := by
  rw [List.take_succ_eq_append_getElem h, List.count_append, gi_eq l j h]
  by_cases e : l[j] = c <;> simp [e]
theorem mem_cut {l : List Int} {i : Nat} {x : Int} (h : x ∈ l.take i ++ l.drop (i + 1)) : x ∈ l := by
  rw [List.mem_append] at h
  rcases h with h | h
  · exact List.mem_of_mem_take h
  · exact List.mem_of_mem_drop h
theorem cut_length {l : List Int} {i : Nat} (h : i < l.length) : (l.take i ++ l.drop (i + 1)).length + 1 = l.length := by
  simp; omega
end Go.Proofs.YtjkpelbhhapebaaGreatDoor.A
