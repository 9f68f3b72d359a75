/-
  Words for (*mode.Pages).Select: what it answers. No condition.
-/
import Derived.Test.YtieieinaijopnaaPage
namespace Go.Proofs.Ytieieinaijopnaa
open Go.RowKit

/-- Pages that go well, one behind the other. -/
inductive Steps (L : List Int) : Nat → V → Nat → V → Prop
  | refl (a : Nat) (v : V) : Steps L a v a v
  | step {a b : Nat} {v v1 v2 : V} {n : Nat} : Steps L a v b v1 → b < L.length → PageR (L.drop b) b v1 v2 n noSense true → Steps L a v (b + n) v2
def hdN (long : Bool) : Nat := if long then 8 else 4
def devN (long : Bool) : Nat := if long then 3 else 2
/-- The head is well. -/
def HeadOk (L : List Int) (long : Bool) : Prop := ∀ j, j < hdN long → j ≠ devN long → gi L j = 0

/-- What Select answers of the bytes L, and what it makes of the pages. -/
def SelR (L : List Int) (long save : Bool) (n s : V) (ch : Bool) (sn : SN) (ok : Bool) (n' s' : V) : Prop :=
  (L.length = 0 ∧ ch = false ∧ sn = noSense ∧ ok = true ∧ n' = n ∧ s' = s) ∨
  0 < L.length ∧
  (L.length < hdN long ∧ ch = false ∧ sn = shortS ∧ ok = false ∧ n' = n ∧ s' = s ∨
   hdN long ≤ L.length ∧ (∃ i : Nat, i < hdN long ∧ i ≠ devN long ∧ gi L i ≠ 0 ∧ (∀ j, j < i → j ≠ devN long → gi L j = 0) ∧ ch = false ∧ sn = badS i (-1) false ∧ ok = false ∧ n' = n ∧ s' = s) ∨
   hdN long ≤ L.length ∧ HeadOk L long ∧ (∃ b v1 v2 k, Steps L (hdN long) n b v1 ∧ b < L.length ∧ PageR (L.drop b) b v1 v2 k sn false ∧ ch = false ∧ ok = false ∧ n' = n ∧ s' = s) ∨
   hdN long ≤ L.length ∧ HeadOk L long ∧ (∃ v1, Steps L (hdN long) n L.length v1 ∧ ch = (v1 != n) ∧ sn = noSense ∧ ok = true ∧ n' = v1 ∧ s' = if save then v1 else s))
/-- A page that goes well: where it ends. -/
theorem PageR.ok {R : List Int} {at_ : Int} {v v' : V} {n : Int} {s : SN} (h : PageR R at_ v v' n s true) : s = noSense ∧ ∃ k : Nat, n = k ∧ 12 ≤ k ∧ k ≤ R.length := by
  rcases h with ⟨-, -, -, -, -, h⟩ | ⟨h8, ⟨-, -, -, -, h⟩ | ⟨-, -, -, -, -, h⟩ | ⟨-, -, i, b, -, -, -, -, h⟩ | ⟨h1, -, -, -, h2, h3, -⟩⟩
  · cases h
  · cases h
  · cases h
  · cases h
  · refine ⟨h3, wn (gi R 0), h2, ?_, h1⟩
    rcases h8 with h8 | h8 <;> rw [h8] <;> decide
theorem PageR.bad {R : List Int} {at_ : Int} {v v' : V} {n : Int} {s : SN} (h : PageR R at_ v v' n s false) : s.key = 5 := by
  rcases h with ⟨-, -, -, -, h, -⟩ | ⟨h8, ⟨-, -, -, h, -⟩ | ⟨-, -, -, -, h, -⟩ | ⟨-, -, i, b, -, -, -, h, -⟩ | ⟨h1, -, -, -, h2, h3, h⟩⟩
  · rw [h]; rfl
  · rw [h]; rfl
  · rw [h]; rfl
  · rw [h]; rfl
  · cases h
/-- A refusal changes nothing, and tells an illegal request; else there is no sense. -/
theorem SelR.refused {L : List Int} {long save ch : Bool} {n s n' s' : V} {sn : SN} (h : SelR L long save n s ch sn false n' s') : ch = false ∧ sn.key = 5 ∧ n' = n ∧ s' = s := by
  rcases h with ⟨-, -, -, h, -⟩ | ⟨-, ⟨-, h1, h2, -, h3, h4⟩ | ⟨-, i, -, -, -, -, h1, h2, -, h3, h4⟩ | ⟨-, -, b, v1, v2, k, -, -, hp, h1, -, h3, h4⟩ | ⟨-, -, v1, -, -, -, h, -⟩⟩
  · cases h
  · exact ⟨h1, by rw [h2]; rfl, h3, h4⟩
  · exact ⟨h1, by rw [h2]; rfl, h3, h4⟩
  · exact ⟨h1, hp.bad, h3, h4⟩
  · cases h
theorem SelR.taken {L : List Int} {long save ch : Bool} {n s n' s' : V} {sn : SN} (h : SelR L long save n s ch sn true n' s') : sn = noSense ∧ ch = (n' != n) := by
  rcases h with ⟨-, h1, h2, -, h3, -⟩ | ⟨-, ⟨-, -, -, h, -⟩ | ⟨-, i, -, -, -, -, -, -, h, -⟩ | ⟨-, -, b, v1, v2, k, -, -, -, -, h, -⟩ | ⟨-, -, v1, -, h1, h2, -, h3, -⟩⟩
  · exact ⟨h2, by rw [h1, h3]; simp⟩
  · cases h
  · cases h
  · cases h
  · exact ⟨h2, by rw [h1, h3]⟩

def SelPost (p : Nat) (L : List Int) (long save : Bool) (n s : V) (w : World) (e : Ending) (w' : World) : Prop := ∃ ch sn ok n' s', SelR L long save n s ch sn ok n' s' ∧
  e = .returned (.tuple #[.bool ch, .agg #[.int .u8 sn.key, .int .u16 sn.code, .int .u64 0, .bool false, .int .i64 sn.field, .int .i64 sn.bit, .bool sn.has, .bool sn.cmd], .bool ok]) ∧ PG w' p n' s' ∧ Mod (fun k => k = p) w w'
theorem neq23 (a b c a' b' c' : Bool) (w : World) : (binOp .neq 23 (.agg #[.bool a, .bool b, .bool c]) (.agg #[.bool a', .bool b', .bool c'])).run Try.prog w = .ok (.bool ((⟨a, b, c⟩ : V) != ⟨a', b', c'⟩)) w := by
  cases a <;> cases b <;> cases c <;> cases a' <;> cases b' <;> cases c' <;> kernel_rfl
theorem eql23 (a b c a' b' c' : Bool) (w : World) : (binOp .eql 23 (.agg #[.bool a, .bool b, .bool c]) (.agg #[.bool a', .bool b', .bool c'])).run Try.prog w = .ok (.bool ((⟨a, b, c⟩ : V) == ⟨a', b', c'⟩)) w := by
  cases a <;> cases b <;> cases c <;> cases a' <;> cases b' <;> cases c' <;> kernel_rfl
end Go.Proofs.Ytieieinaijopnaa
