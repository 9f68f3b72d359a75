/-
  The walks of package task, first part: the set, find, New, Tasks. Conditions: a set whose block and row lie in memory of its own.
-/
import Derived.Test.YtabkplmpkdbchaaMem
namespace Go.Proofs.Ytabkplmpkdbchaa
open Go.RowKit

/-- A task: its nexus, its tag, its attribute, whether it has started. -/
structure T where
  nx : Int
  tag : Int
  at_ : Int
  st : Bool
instance : Inhabited T := ⟨⟨0, 0, 0, false⟩⟩
/-- Its cells in the program. -/
def enc (t : T) : List Value := [.int .i64 t.nx, .int .u32 t.tag, .int .u8 t.at_, .bool t.st]
theorem enc_len : ∀ t, (enc t).length = 4 := fun _ => rfl
theorem enc_one : ∀ t, ∀ u ∈ enc t, u.oneCell' = true := by
  intro t u hu
  simp only [enc, List.mem_cons, List.not_mem_nil, or_false] at hu
  rcases hu with rfl | rfl | rfl | rfl <;> rfl
theorem elem26 : Elem Try.prog 26 (.agg #[.int .i64 0, .int .u32 0, .int .u8 0, .bool false]) 4 16 := ⟨by kernel_rfl, rfl, by decide⟩

/-- The set at block b: its tasks l, for whom an allegiance stands; all of it lies in F. -/
def S (w : World) (b : Nat) (l : List T) (aca : Int) (F : Nat → Prop) : Prop :=
  ∃ v, w.heap[b]? = some (.cells #[v, .int .i64 aca] 59 (0, 0)) ∧ F b ∧ Row w 26 4 enc v l ∧ ∀ k, v.ownBlock = some k → F k

theorem S.mono {w : World} {b : Nat} {l : List T} {aca : Int} {F G : Nat → Prop} (h : S w b l aca F) (hG : ∀ k, F k → G k) : S w b l aca G := by
  obtain ⟨v, h1, h2, h3, h4⟩ := h
  exact ⟨v, h1, hG _ h2, h3, fun k hk => hG k (h4 k hk)⟩
theorem S.mod {w w' : World} {b : Nat} {l : List T} {aca : Int} {F G : Nat → Prop} (h : S w b l aca F) (hm : Mod G w w') (hd : ∀ k, F k → ¬ G k) : S w' b l aca F := by
  obtain ⟨v, h1, h2, h3, h4⟩ := h
  exact ⟨v, hm.heap h1 (hd _ h2), h2, h3.mod hm fun k hk => hd k (h4 k hk), h4⟩
theorem S.lt {w : World} {b : Nat} {l : List T} {aca : Int} {F : Nat → Prop} (h : S w b l aca F) : b < w.heap.size := by
  obtain ⟨v, h1, _⟩ := h
  exact (Array.getElem?_eq_some_iff.1 h1).1
/-- What is read of a set. -/
theorem S.at_ {w : World} {b : Nat} {l : List T} {aca : Int} {F : Nat → Prop} (h : S w b l aca F) :
    ∃ A cap, w.cell? ⟨b, 0, none⟩ = some (.slice A l.length cap) ∧ w.cell? ⟨b, 1, none⟩ = some (.int .i64 aca) ∧ w.frozen? ⟨b, 0, none⟩ = false ∧ w.frozen? ⟨b, 1, none⟩ = false ∧
      Rd w 4 enc A l.length l ∧ Row w 26 4 enc (.slice A l.length cap) l ∧ (∀ k, (Value.slice A l.length cap).ownBlock = some k → F k ∧ k ≠ b) ∧ F b := by
  obtain ⟨v, h1, h2, h3, h4⟩ := h
  obtain ⟨A, cap, rfl, _, _⟩ := h3.slice
  refine ⟨A, cap, ?_, ?_, ?_, ?_, h3.rd enc_len rfl, h3, fun k hk => ⟨h4 k hk, fun e => h3.ne h1 (by decide) (e ▸ hk)⟩, h2⟩
  · rw [cell_of_row w b _ _ 59 (0, 0) h1]; rfl
  · rw [cell_of_row w b _ _ 59 (0, 0) h1]; rfl
  · simp [World.frozen?, h1]
  · simp [World.frozen?, h1]

/-- Does a task bear this nexus and this tag? -/
def hit (nx tag : Int) (t : T) : Bool := t.nx == nx && t.tag == tag
/-- Its place; -1: it is not there. -/
def fnd (l : List T) (nx tag : Int) : Int := match l.findIdx? (hit nx tag) with | some i => (i : Int) | none => -1

theorem fnd_at {l : List T} {nx tag : Int} {k : Nat} (hk : k < l.length) (h1 : hit nx tag (gi l k) = true) (h2 : ∀ j, j < k → hit nx tag (gi l j) = false) : fnd l nx tag = (k : Int) := by
  have : l.findIdx? (hit nx tag) = some k := by
    rw [List.findIdx?_eq_some_iff_getElem]
    refine ⟨hk, by rw [← gi_eq l k hk]; exact h1, fun j hj => ?_⟩
    rw [← gi_eq l j (by omega), h2 j hj]
    decide
  rw [fnd, this]
theorem fnd_no {l : List T} {nx tag : Int} (h : ∀ j, j < l.length → hit nx tag (gi l j) = false) : fnd l nx tag = -1 := by
  have : l.findIdx? (hit nx tag) = none := by
    rw [List.findIdx?_eq_none_iff]
    intro x hx
    obtain ⟨j, hj, e⟩ := List.getElem_of_mem hx
    rw [← e, ← gi_eq l j hj]
    exact h j hj
  rw [fnd, this]
theorem fnd_cases (l : List T) (nx tag : Int) : (∃ k : Nat, k < l.length ∧ fnd l nx tag = (k : Int) ∧ hit nx tag (gi l k) = true ∧ ∀ j, j < k → hit nx tag (gi l j) = false) ∨ (fnd l nx tag = -1 ∧ ∀ t ∈ l, hit nx tag t = false) := by
  cases h : l.findIdx? (hit nx tag) with
  | none =>
    rw [List.findIdx?_eq_none_iff] at h
    exact .inr ⟨by simp [fnd, List.findIdx?_eq_none_iff.2 h], h⟩
  | some k =>
    have h' := h
    rw [List.findIdx?_eq_some_iff_getElem] at h
    obtain ⟨hk, h1, h2⟩ := h
    refine .inl ⟨k, hk, by simp [fnd, h'], by rw [gi_eq l k hk]; exact h1, fun j hj => ?_⟩
    rw [gi_eq l j (by omega)]
    simpa using h2 j hj

theorem size26 : (Try.prog.info? 26).map (·.size) = some 4 := by kernel_rfl
/-- The four cells of one element. -/
theorem Rd.elem {w : World} {A : Option Addr} {n : Nat} {l : List T} (h : Rd w 4 enc A n l) (i : Nat) (hi : i < n) : ∃ ad, A = some ad ∧ ∀ j u, (enc (gi l i))[j]? = some u → w.cell? ((ad.add (i * 4)).add j) = some u := by
  obtain ⟨ad, e, hc⟩ := h.2 i hi
  exact ⟨ad, e, fun j u hu => by rw [addr_add]; exact hc j u hu⟩
theorem Rd.task {w : World} {A : Option Addr} {n : Nat} {l : List T} (h : Rd w 4 enc A n l) (i : Nat) (hi : i < n) : ∃ ad, A = some ad ∧
    w.cell? (ad.add (i * 4)) = some (.int .i64 (gi l i).nx) ∧ w.cell? (ad.add (i * 4 + 1)) = some (.int .u32 (gi l i).tag) ∧ w.cell? (ad.add (i * 4 + 2)) = some (.int .u8 (gi l i).at_) ∧ w.cell? (ad.add (i * 4 + 3)) = some (.bool (gi l i).st) := by
  obtain ⟨ad, e, hc⟩ := h.2 i hi
  exact ⟨ad, e, hc 0 _ rfl, hc 1 _ rfl, hc 2 _ rfl, hc 3 _ rfl⟩

set_option maxHeartbeats 1000000 in
theorem find_some (b : Nat) (nx tag : Int) (l : List T) (aca : Int) (F : Nat → Prop) (w : World) (hl : l.length ≤ 1000) (hs : S w b l aca F) :
    Calls Try.prog 26 #[.pointer (some ⟨b, 0, none⟩), .int .i64 nx, .int .u32 tag] w fun e w' => e = .returned (.int .i64 (fnd l nx tag)) ∧ Mod (fun _ => False) w w' := by
  obtain ⟨A, cap, hc, -, -, -, hr, -, -, -⟩ := hs.at_
  clear hs
  obtain ⟨len, hlen⟩ : ∃ len, len = l.length := ⟨_, rfl⟩
  rw [← hlen] at hc hr hl
  replace hlen := hide hlen
  replace hr := hide hr
  go_enter Try.func26, Try.ntmps26
  go_wp2_with fail
  go_loopw [14] (fun i wr => ∃ k : Nat, k ≤ len ∧ i = .int .i64 k ∧ Hid (Mod (fun _ => False) w wr ∧ ∀ j, j < k → hit nx tag (gi l j) = false)) (fun i _ => len - (intOf i).toNat)
  case atStart => exact ⟨0, by omega, rfl, hide ⟨Mod.refl _ _, fun j hj => by omega⟩⟩
  case round =>
    obtain ⟨k, hk, rfl, hR⟩ := hrel
    by_cases hlt : k < len
    · obtain ⟨ad, rfl, hc4⟩ := (hr.out.mod hR.out.1 (by simp)).elem k hlt
      have hcr := hR.out.1.cell hc (by simp)
      replace hc4 := hide hc4
      by_cases h1 : (gi l k).nx = nx
      · have h1b : ((gi l k).nx == nx) = true := by simpa using h1
        by_cases h2 : (gi l k).tag = tag
        · have h2b : ((gi l k).tag == tag) = true := by simpa using h2
          have hf : fnd l nx tag = (k : Int) := fnd_at (by rw [← hlen.out]; exact hlt) (by simp [hit, h1, h2]) hR.out.2
          replace hf := hide hf
          replace h1 := hide h1
          replace h2 := hide h2
          go_wp2_with (refine list_load 26 (.tmp 17) rfl rfl _ Try.underlying26 rfl (ad.add (k * 4)) [.int .i64 (gi l k).nx, .int .u32 (gi l k).tag, .int .u8 (gi l k).at_, .bool (gi l k).st] size26 rfl hc4.out ?_)
          go_ret
          exact ⟨ret_int hf.out.symm, hR.out.1.alloc _⟩
        · have h2b : ((gi l k).tag == tag) = false := by simpa using h2
          have hn : ∀ j, j < k + 1 → hit nx tag (gi l j) = false := fun j hj => by
            by_cases e : j = k
            · subst e; simp [hit, h2]
            · exact hR.out.2 j (by omega)
          replace hn := hide hn
          replace h1 := hide h1
          replace h2 := hide h2
          go_wp2_with (refine list_load 26 (.tmp 17) rfl rfl _ Try.underlying26 rfl (ad.add (k * 4)) [.int .i64 (gi l k).nx, .int .u32 (gi l k).tag, .int .u8 (gi l k).at_, .bool (gi l k).st] size26 rfl hc4.out ?_)
          go_roundw
          case rel => exact ⟨k + 1, by omega, by go_num, hide ⟨hR.out.1.alloc _, hn.out⟩⟩
          case measure => simp [intOf]; omega
      · have h1b : ((gi l k).nx == nx) = false := by simpa using h1
        have hn : ∀ j, j < k + 1 → hit nx tag (gi l j) = false := fun j hj => by
          by_cases e : j = k
          · subst e; simp [hit, h1]
          · exact hR.out.2 j (by omega)
        replace hn := hide hn
        replace h1 := hide h1
        go_wp2_with (refine list_load 26 (.tmp 17) rfl rfl _ Try.underlying26 rfl (ad.add (k * 4)) [.int .i64 (gi l k).nx, .int .u32 (gi l k).tag, .int .u8 (gi l k).at_, .bool (gi l k).st] size26 rfl hc4.out ?_)
        go_roundw
        case rel => exact ⟨k + 1, by omega, by go_num, hide ⟨hR.out.1.alloc _, hn.out⟩⟩
        case measure => simp [intOf]; omega
    · obtain rfl : k = len := by omega
      have hf : fnd l nx tag = -1 := fnd_no fun j hj => hR.out.2 j (by rw [hlen.out]; exact hj)
      replace hf := hide hf
      go_wp2_with fail
      go_ret
      exact ⟨ret_int hf.out.symm, hR.out.1⟩

set_option maxHeartbeats 400000 in
theorem new_any (w : World) :
    Calls Try.prog 15 #[] w fun e w' => e = .returned (.pointer (some ⟨w.heap.size, 0, none⟩)) ∧ S w' w.heap.size [] (-1) (Plus (fun _ => False) w w') ∧ Mod (fun _ => False) w w' := by
  go_enter Try.func15, Try.ntmps15
  go_wp2
  go_ret
  exact ⟨rfl, ⟨.slice none 0 0, heap_alloc_new w _, .inr ⟨Nat.le_refl _, by simp⟩, Row.nil _ _ _ _, by simp [Value.ownBlock]⟩, (Mod.refl _ w).alloc _⟩

set_option maxHeartbeats 400000 in
theorem tasks_some (b : Nat) (l : List T) (aca : Int) (F : Nat → Prop) (w : World) (hl : l.length ≤ 1000) (hs : S w b l aca F) :
    Calls Try.prog 11 #[.pointer (some ⟨b, 0, none⟩)] w fun e w' => ∃ v, e = .returned v ∧ Row w' 26 4 enc v l ∧ Mod (fun _ => False) w w' ∧ ∀ k, v.ownBlock = some k → w.heap.size ≤ k := by
  obtain ⟨A, cap, hc, -, -, -, hr, -, -, -⟩ := hs.at_
  clear hs
  replace hr := hide hr
  go_enter Try.func11, Try.ntmps11
  go_wp2_with (at_builtin; refine list_app (.const (.slice none 0 0)) (.tmp 8) 30 26 _ 4 16 enc rfl rfl enc_len enc_one Try.underlying30 elem26 (.slice none 0 0) [] A l.length cap l rfl rfl (Row.nil _ _ _ _) hr.out (by simp [maxLen]; omega) (by simp; omega) ?_; intro v1 w1 h1 g1 a1)
  go_ret
  refine ⟨v1, rfl, h1, (Mod.refl _ w).grown g1 (by simp [Value.ownBlock]), fun k hk => ?_⟩
  rcases a1 with e | e <;> rw [e] at hk <;> simp [Value.ownBlock] at hk
  omega
theorem tasks_none (w : World) : Calls Try.prog 11 #[.pointer none] w fun e w' => e = .returned (.slice none 0 0) ∧ w = w' := by
  go_enter Try.func11, Try.ntmps11
  go_wp2
  go_ret
  exact ⟨rfl, rfl⟩
end Go.Proofs.Ytabkplmpkdbchaa
