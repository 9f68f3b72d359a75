/-
  Words for the walk of mode.page: what it answers. No condition.
-/
import Derived.Test.YtieieinaijopnaaSet
import Derived.Deep.RegionWith
namespace Go.Proofs.Ytieieinaijopnaa
open Go.RowKit
abbrev v0 : V := ⟨false, false, false⟩
/-- Is the bit b of x on, where it can't be? -/
def bitT (x can : Int) (b : Nat) : Bool := bits BinOp.and IntKind.u8 (bits BinOp.andNot IntKind.u8 x can / 2 ^ b) 1 == 1
/-- Which bits of byte i of a page can be on. -/
def canB (r0 : Int) (i : Nat) : Int := if i = 2 then 4 else if i = 4 ∧ r0 = 10 then 8 else 0
def wn (r0 : Int) : Nat := if r0 = 8 then 20 else 12
def w1b (r0 : Int) : Int := if r0 = 8 then 18 else 10
/-- No bit is bad in the bytes from 2 on, ahead of place i. -/
def Clean (R : List Int) (r0 : Int) (i : Nat) : Prop := ∀ j, 2 ≤ j → j < i → ∀ b, b ≤ 7 → bitT (gi R j) (canB r0 j) b = false
/-- The first bad bit. -/
def First (R : List Int) (r0 : Int) (i b : Nat) : Prop := 2 ≤ i ∧ i < wn r0 ∧ b ≤ 7 ∧ Clean R r0 i ∧ bitT (gi R i) (canB r0 i) b = true ∧ ∀ b', b < b' → b' ≤ 7 → bitT (gi R i) (canB r0 i) b' = false
def shortS : SN := ⟨5, 6656, 0, 0, false, false⟩
/-- The values behind a page. -/
def updV (R : List Int) (v : V) : V := if gi R 0 = 8 then ⟨gi R 2 != 0, v.b, v.c⟩ else ⟨v.a, gi R 2 != 0, gi R 4 != 0⟩
/-- What page answers of the bytes R, which begin at place at_. -/
def PageR (R : List Int) (at_ : Int) (v v' : V) (n : Int) (s : SN) (ok : Bool) : Prop :=
  (¬ gi R 0 = 8 ∧ ¬ gi R 0 = 10 ∧ v' = v ∧ n = 0 ∧ s = badS at_ (-1) false ∧ ok = false) ∨
  (gi R 0 = 8 ∨ gi R 0 = 10) ∧
  ((R.length < 2 ∨ (R.length < wn (gi R 0) ∧ gi R 1 = w1b (gi R 0))) ∧ v' = v ∧ n = 0 ∧ s = shortS ∧ ok = false ∨
   2 ≤ R.length ∧ ¬ gi R 1 = w1b (gi R 0) ∧ v' = v ∧ n = 0 ∧ s = badS (at_ + 1) (-1) false ∧ ok = false ∨
   wn (gi R 0) ≤ R.length ∧ gi R 1 = w1b (gi R 0) ∧ (∃ i b : Nat, First R (gi R 0) i b ∧ v' = v ∧ n = 0 ∧ s = badS (at_ + i) b false ∧ ok = false) ∨
   wn (gi R 0) ≤ R.length ∧ gi R 1 = w1b (gi R 0) ∧ Clean R (gi R 0) (wn (gi R 0)) ∧ v' = updV R v ∧ n = wn (gi R 0) ∧ s = noSense ∧ ok = true)
def PagePost (R : List Int) (at_ : Int) (v : V) (w : World) (e : Ending) (w' : World) : Prop := ∃ v' n s ok, PageR R at_ v v' n s ok ∧
  e = .returned (.tuple #[.agg #[.bool v'.a, .bool v'.b, .bool v'.c], .int .i64 n, .agg #[.int .u8 s.key, .int .u16 s.code, .int .u64 0, .bool false, .int .i64 s.field, .int .i64 s.bit, .bool s.has, .bool s.cmd], .bool ok]) ∧ Mod (fun _ => False) w w'

theorem badf_any (f b : Int) (w : World) : Calls Try.prog 20 #[.int .i64 f, .int .i64 b, .bool false] w fun e w' => e = .returned (.agg #[.int .u8 5, .int .u16 9728, .int .u64 0, .bool false, .int .i64 f, .int .i64 b, .bool true, .bool false]) ∧ Mod (fun _ => False) w w' := bad_any f b false w

/-- The three blocks that page makes: its parameter's, and its results'. -/
def PEnv (W : World) (b : Nat) (v : V) : Prop := W.heap[b]? = some (.cells #[.bool v.a, .bool v.b, .bool v.c] 23 (0, 0)) ∧ W.heap[b + 1]? = some (.cells #[.bool false, .bool false, .bool false] 23 (0, 0)) ∧
  W.heap[b + 1 + 1]? = some (.cells #[.int .u8 0, .int .u16 0, .int .u64 0, .bool false, .int .i64 0, .int .i64 0, .bool false, .bool false] 31 (0, 0))
theorem PEnv.mod {W W' : World} {b : Nat} {v : V} {F : Nat → Prop} (h : PEnv W b v) (hm : Mod F W W') (h1 : ∀ k, F k → k < b) : PEnv W' b v :=
  ⟨hm.heap h.1 (fun e => by have := h1 _ e; omega), hm.heap h.2.1 (fun e => by have := h1 _ e; omega), hm.heap h.2.2 (fun e => by have := h1 _ e; omega)⟩
theorem PEnv.q {W W' : World} {b : Nat} {v : V} (h : PEnv W b v) (hm : Mod (fun _ => False) W W') : PEnv W' b v := h.mod hm (by simp)
theorem PEnv.drew {W : World} {b : Nat} {v : V} (h : PEnv W b v) (n : Nat) : PEnv (W.drewN n) b v := h
theorem PEnv.cells {W : World} {b : Nat} {v : V} (h : PEnv W b v) : (W.cell? ⟨b, 0, none⟩ = some (.bool v.a) ∧ W.cell? ⟨b, 1, none⟩ = some (.bool v.b) ∧ W.cell? ⟨b, 2, none⟩ = some (.bool v.c)) ∧
    (W.cell? ⟨b + 1, 0, none⟩ = some (.bool false) ∧ W.cell? ⟨b + 1, 1, none⟩ = some (.bool false) ∧ W.cell? ⟨b + 1, 2, none⟩ = some (.bool false)) ∧
    (W.cell? ⟨b + 1 + 1, 0, none⟩ = some (.int .u8 0) ∧ W.cell? ⟨b + 1 + 1, 1, none⟩ = some (.int .u16 0) ∧ W.cell? ⟨b + 1 + 1, 2, none⟩ = some (.int .u64 0) ∧ W.cell? ⟨b + 1 + 1, 3, none⟩ = some (.bool false) ∧
     W.cell? ⟨b + 1 + 1, 4, none⟩ = some (.int .i64 0) ∧ W.cell? ⟨b + 1 + 1, 5, none⟩ = some (.int .i64 0) ∧ W.cell? ⟨b + 1 + 1, 6, none⟩ = some (.bool false) ∧ W.cell? ⟨b + 1 + 1, 7, none⟩ = some (.bool false)) :=
  ⟨vals h.1, vals (v := v0) h.2.1, eights h.2.2⟩
theorem PEnv.frozen {W : World} {b : Nat} {v : V} (h : PEnv W b v) : (∀ j, W.frozen? ⟨b, j, none⟩ = false) ∧ (∀ j, W.frozen? ⟨b + 1, j, none⟩ = false) ∧ (∀ j, W.frozen? ⟨b + 1 + 1, j, none⟩ = false) :=
  ⟨fun _ => frozen_of_row _ _ _ _ _ h.1, fun _ => frozen_of_row _ _ _ _ _ h.2.1, fun _ => frozen_of_row _ _ _ _ _ h.2.2⟩
theorem PEnv.size {W : World} {b : Nat} {v : V} (h : PEnv W b v) : b + 1 + 1 < W.heap.size := (Array.getElem?_eq_some_iff.1 h.2.2).1
/-- The results' stores. -/
theorem set11 {W : World} {b : Nat} {v : V} (h : PEnv W b v) (x0 x1 x2 v0 v1 v2 v3 v4 v5 v6 v7 : Value) :
    (((((((((((W.setCell ⟨b + 1, 0, none⟩ x0).setCell ⟨b + 1, 1, none⟩ x1).setCell ⟨b + 1, 2, none⟩ x2).setCell ⟨b + 1 + 1, 0, none⟩ v0).setCell ⟨b + 1 + 1, 1, none⟩ v1).setCell ⟨b + 1 + 1, 2, none⟩ v2).setCell ⟨b + 1 + 1, 3, none⟩ v3).setCell ⟨b + 1 + 1, 4, none⟩ v4).setCell ⟨b + 1 + 1, 5, none⟩ v5).setCell ⟨b + 1 + 1, 6, none⟩ v6).setCell ⟨b + 1 + 1, 7, none⟩ v7).heap[b + 1]? = some (.cells #[x0, x1, x2] 23 (0, 0)) ∧ (((((((((((W.setCell ⟨b + 1, 0, none⟩ x0).setCell ⟨b + 1, 1, none⟩ x1).setCell ⟨b + 1, 2, none⟩ x2).setCell ⟨b + 1 + 1, 0, none⟩ v0).setCell ⟨b + 1 + 1, 1, none⟩ v1).setCell ⟨b + 1 + 1, 2, none⟩ v2).setCell ⟨b + 1 + 1, 3, none⟩ v3).setCell ⟨b + 1 + 1, 4, none⟩ v4).setCell ⟨b + 1 + 1, 5, none⟩ v5).setCell ⟨b + 1 + 1, 6, none⟩ v6).setCell ⟨b + 1 + 1, 7, none⟩ v7).heap[b + 1 + 1]? = some (.cells #[v0, v1, v2, v3, v4, v5, v6, v7] 31 (0, 0)) ∧ Mod (fun k => b < k) W (((((((((((W.setCell ⟨b + 1, 0, none⟩ x0).setCell ⟨b + 1, 1, none⟩ x1).setCell ⟨b + 1, 2, none⟩ x2).setCell ⟨b + 1 + 1, 0, none⟩ v0).setCell ⟨b + 1 + 1, 1, none⟩ v1).setCell ⟨b + 1 + 1, 2, none⟩ v2).setCell ⟨b + 1 + 1, 3, none⟩ v3).setCell ⟨b + 1 + 1, 4, none⟩ v4).setCell ⟨b + 1 + 1, 5, none⟩ v5).setCell ⟨b + 1 + 1, 6, none⟩ v6).setCell ⟨b + 1 + 1, 7, none⟩ v7) := by
  obtain ⟨q1, q2⟩ := set3 h.2.1 x0 x1 x2
  obtain ⟨q3, q4⟩ := set8 (q2.heap h.2.2 (by omega)) v0 v1 v2 v3 v4 v5 v6 v7
  exact ⟨q4.heap q1 (by omega), q3, (q2.mono (G := fun k => b < k) (fun i _ e => by have : i = b + 1 := e; omega)).trans q4 (fun i _ e => by have : i = b + 1 + 1 := e; omega)⟩
end Go.Proofs.Ytieieinaijopnaa
