/-
  palletref19.Sum, walked. Conditions: bytes that take less than 2^47.
-/
import Derived.Test.YtipkdhcbajcamaaRef
namespace Go.Proofs.Ytipkdhcbajcamaa
open Go.RowKit

/-- The bytes so far, in a row of the call's own. -/
def Sr (w wr : World) (v : Value) (q : List Int) : Prop := Mod (fun _ => False) w wr ∧ Row wr 5 1 (ic .u8) v q ∧ ∀ k, v.ownBlock = some k → w.heap.size ≤ k
theorem Sr.app {w wr w2 : World} {v v2 : Value} {q q2 : List Int} {o : Obj} (h : Sr w wr v q) (r2 : Row w2 5 1 (ic .u8) v2 q2) (g2 : (wr.alloc o).grownBy w2 v.ownBlock) (a2 : v2.ownBlock = v.ownBlock ∨ v2.ownBlock = some (wr.alloc o).heap.size) : Sr w w2 v2 q2 := by
  obtain ⟨h1, h3, h4⟩ := h
  have hs := h1.size
  have m2 : Mod (fun k => v.ownBlock = some k) wr w2 := ((Mod.refl _ wr).alloc o).grown g2 (fun k hk => .inl hk)
  refine ⟨h1.trans m2 (fun i hi hg => by have := h4 i hg; omega), r2, fun k hk => ?_⟩
  rcases a2 with e | e
  · exact h4 k (e ▸ hk)
  · rw [e] at hk
    simp at hk
    omega
def tv : Array Value := rv
/-- The blocks of the document's sum: the bytes, the four words, the turns, the constants. -/
def Rw (w wr : World) (gq hb tb kb n : Nat) (q : List Int) (s : Q) : Prop :=
  Mod (fun _ => False) w wr ∧ Rd wr 1 (ic .u8) (some ⟨gq, 0, none⟩) n q ∧ wr.heap[hb]? = some (.cells #[.int .u32 s.a, .int .u32 s.b, .int .u32 s.c, .int .u32 s.d] 38 (0, 0)) ∧
  wr.heap[tb]? = some (.cells rv 3 (0, 0)) ∧ Row wr 38 1 (ic .u32) (.slice (some ⟨kb, 0, none⟩) 64 64) kl ∧ gq < hb ∧ hb < tb ∧ tb < kb ∧ w.heap.size ≤ hb
theorem Rw.drewN {w wr : World} {gq hb tb kb n : Nat} {q : List Int} {s : Q} (h : Rw w wr gq hb tb kb n q s) (m : Nat) : Rw w (wr.drewN m) gq hb tb kb n q s := ⟨h.1.drewN m, h.2.1, h.2.2.1, h.2.2.2.1, h.2.2.2.2.1, h.2.2.2.2.2⟩
theorem Rw.drew {w wr : World} {gq hb tb kb n : Nat} {q : List Int} {s : Q} (h : Rw w wr gq hb tb kb n q s) : Rw w wr.drew gq hb tb kb n q s := ⟨h.1.drew, h.2.1, h.2.2.1, h.2.2.2.1, h.2.2.2.2.1, h.2.2.2.2.2⟩
theorem Rw.byte {w wr : World} {gq hb tb kb n : Nat} {q : List Int} {s : Q} (h : Rw w wr gq hb tb kb n q s) (i : Nat) (hi : i < n) : wr.cell? ⟨gq, i, none⟩ = some (.int .u8 (gi q i)) := by
  have := rd_at h.2.1 i hi
  simpa using this
theorem Rw.word {w wr : World} {gq hb tb kb n : Nat} {q : List Int} {s : Q} (h : Rw w wr gq hb tb kb n q s) (i : Nat) (hi : i < 4) : wr.cell? ⟨hb, i, none⟩ = some (.int .u32 (s.at_ i)) ∧ wr.frozen? ⟨hb, i, none⟩ = false := by
  refine ⟨?_, frozen_of_row wr _ i _ 38 h.2.2.1⟩
  rw [cell_of_row wr _ i _ 38 (0, 0) h.2.2.1]
  obtain rfl | rfl | rfl | rfl : i = 0 ∨ i = 1 ∨ i = 2 ∨ i = 3 := by omega
  all_goals rfl
theorem rv_get (i : Nat) (hi : i < 64) : rv[4 * (i / 16) + i % 4]? = some (.int .i64 (sh i)) := by
  unfold sh
  have h1 : i / 16 < 4 := by omega
  have h2 : i % 4 < 4 := by omega
  generalize i / 16 = a at *
  generalize i % 4 = b at *
  obtain rfl | rfl | rfl | rfl : a = 0 ∨ a = 1 ∨ a = 2 ∨ a = 3 := by omega
  all_goals
    obtain rfl | rfl | rfl | rfl : b = 0 ∨ b = 1 ∨ b = 2 ∨ b = 3 := by omega
    all_goals rfl
theorem Rw.turn {w wr : World} {gq hb tb kb n : Nat} {q : List Int} {s : Q} (h : Rw w wr gq hb tb kb n q s) (i : Nat) (hi : i < 64) : wr.cell? ⟨tb, 4 * (i / 16) + i % 4, none⟩ = some (.int .i64 (sh i)) := by
  rw [cell_of_row wr _ _ _ 3 (0, 0) h.2.2.2.1]
  exact rv_get i hi
theorem Rw.const {w wr : World} {gq hb tb kb n : Nat} {q : List Int} {s : Q} (h : Rw w wr gq hb tb kb n q s) (i : Nat) (hi : i < 64) : wr.cell? ⟨kb, i, none⟩ = some (.int .u32 (gi kl i)) :=
  (h.2.2.2.2.1.num i (by rw [kl_len]; exact hi)).1
theorem Rw.put {w wr : World} {gq hb tb kb n : Nat} {q : List Int} {s : Q} (h : Rw w wr gq hb tb kb n q s) (a b c d : Int) :
    Rw w ((((wr.setCell ⟨hb, 0, none⟩ (.int .u32 a)).setCell ⟨hb, 1, none⟩ (.int .u32 b)).setCell ⟨hb, 2, none⟩ (.int .u32 c)).setCell ⟨hb, 3, none⟩ (.int .u32 d)) gq hb tb kb n q ⟨a, b, c, d⟩ := by
  obtain ⟨h1, h2, h3, h4, h5, h6, h7, h8, h9⟩ := h
  obtain ⟨k1, k2⟩ := set4 h3 (.int .u32 a) (.int .u32 b) (.int .u32 c) (.int .u32 d)
  refine ⟨h1.trans k2 (fun i hi hg => by omega), h2.mod k2 (fun ad e => ?_), k1, k2.heap h4 (by omega), h5.mod k2 (fun k hk => ?_), h6, h7, h8, h9⟩
  · obtain rfl := Option.some.inj e
    show ¬ gq = hb
    omega
  · simp [Value.ownBlock] at hk
    omega
/-- A word out of its bytes, from the last. -/
def pm (q : List Int) (B : Nat) : Nat → Int
  | 0 => 0
  | t + 1 => pm q B t * 256 + gi q (B + 3 - t)
theorem pm_bd {q : List Int} (h : ∀ i, 0 ≤ gi q i ∧ gi q i ≤ 255) (B : Nat) : ∀ t, t ≤ 3 → 0 ≤ pm q B t ∧ pm q B t < 16777216 := by
  intro t ht
  have h0 := h (B + 3 - 0)
  have h1 := h (B + 3 - 1)
  have h2 := h (B + 3 - 2)
  obtain rfl | rfl | rfl | rfl : t = 0 ∨ t = 1 ∨ t = 2 ∨ t = 3 := by omega
  all_goals simp only [pm]
  all_goals omega
theorem pm_wd (q : List Int) (j g : Nat) : pm q (64 * j + 4 * g) 4 = wd (q.drop (64 * j)) g := by
  simp only [pm, wd]
  have e : ∀ i, gi (q.drop (64 * j)) i = gi q (64 * j + i) := fun i => by simp [gi, List.getD_eq_getElem?_getD]
  rw [e, e, e, e, show 64 * j + 4 * g + 3 - 3 = 64 * j + 4 * g from by omega, show 64 * j + 4 * g + 3 - 2 = 64 * j + (4 * g + 1) from by omega, show 64 * j + 4 * g + 3 - 1 = 64 * j + (4 * g + 2) from by omega, show 64 * j + 4 * g + 3 - 0 = 64 * j + (4 * g + 3) from by omega]
  omega
theorem gi_by {q : List Int} (h : ∀ x ∈ q, 0 ≤ x ∧ x ≤ 255) (i : Nat) : 0 ≤ gi q i ∧ gi q i ≤ 255 := by
  by_cases hi : i < q.length
  · exact h _ (gi_mem hi)
  · have : gi q i = 0 := by simp [gi, List.getD_eq_getElem?_getD, List.getElem?_eq_none (Nat.le_of_not_lt hi)]
    omega
/-- The answer's bytes so far, beside the four words. -/
def Ov (w wr : World) (hb : Nat) (s : Q) (v : Value) (n : Nat) : Prop :=
  Mod (fun _ => False) w wr ∧ wr.heap[hb]? = some (.cells #[.int .u32 s.a, .int .u32 s.b, .int .u32 s.c, .int .u32 s.d] 38 (0, 0)) ∧ Row wr 5 1 (ic .u8) v (outB s n) ∧ ∀ k, v.ownBlock = some k → w.heap.size ≤ k
theorem Ov.word {w wr : World} {hb : Nat} {s : Q} {v : Value} {n : Nat} (h : Ov w wr hb s v n) (i : Nat) (hi : i < 4) : wr.cell? ⟨hb, i, none⟩ = some (.int .u32 (s.at_ i)) := by
  rw [cell_of_row wr _ i _ 38 (0, 0) h.2.1]
  obtain rfl | rfl | rfl | rfl : i = 0 ∨ i = 1 ∨ i = 2 ∨ i = 3 := by omega
  all_goals rfl
theorem Ov.app {w wr w2 : World} {hb : Nat} {s : Q} {v v2 : Value} {n m : Nat} {o : Obj} (h : Ov w wr hb s v n) (r2 : Row w2 5 1 (ic .u8) v2 (outB s m)) (g2 : (wr.alloc o).grownBy w2 v.ownBlock) (a2 : v2.ownBlock = v.ownBlock ∨ v2.ownBlock = some (wr.alloc o).heap.size) : Ov w w2 hb s v2 m := by
  obtain ⟨h1, h2, h3, h4⟩ := h
  have hs := h1.size
  have m2 : Mod (fun k => v.ownBlock = some k) wr w2 := ((Mod.refl _ wr).alloc o).grown g2 (fun k hk => .inl hk)
  refine ⟨h1.trans m2 (fun i hi hg => by have := h4 i hg; omega), m2.heap h2 (fun e => h3.ne h2 (by decide) e), r2, fun k hk => ?_⟩
  rcases a2 with e | e
  · exact h4 k (e ▸ hk)
  · rw [e] at hk
    simp at hk
    omega
end Go.Proofs.Ytipkdhcbajcamaa
