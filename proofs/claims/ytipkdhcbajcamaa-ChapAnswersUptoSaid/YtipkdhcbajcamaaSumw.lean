/-
  The sum, plainly: what is added behind the bytes, block by block, the sixteen bytes at the end. No condition.
-/
import Derived.Test.YtipkdhcbajcamaaMd
namespace Go.Proofs.Ytipkdhcbajcamaa
open Go.RowKit

/-- How many zeros. -/
def zz (n : Nat) : Nat := (119 - n % 64) % 64
/-- The bytes, 128, zeros: so many in all. -/
def padz (l : List Int) (m : Nat) : List Int := l ++ [128] ++ List.replicate (m - (l.length + 1)) 0
/-- The lower k bytes of a number. -/
def lenB (n : Int) (k : Nat) : List Int := (List.range k).map fun i => n / 2 ^ (8 * i) % 256
/-- All that is mixed in. -/
def full (l : List Int) : List Int := padz l (l.length + 1 + zz l.length) ++ lenB ((l.length : Int) * 8) 8
def h0 : Q := ⟨1732584193, 4023233417, 2562383102, 271733878⟩
def stB (q : List Int) : Nat → Q
  | 0 => h0
  | j + 1 => blk (stB q j) (q.drop (64 * j))
def Q.at_ (s : Q) (i : Nat) : Int := if i = 0 then s.a else if i = 1 then s.b else if i = 2 then s.c else s.d
/-- The first k bytes of four words. -/
def outB (s : Q) (k : Nat) : List Int := (List.range k).map fun i => s.at_ (i / 4) / 2 ^ (8 * (i % 4)) % 256
/-- The sum. -/
def md (l : List Int) : List Int := outB (stB (full l) ((full l).length / 64)) 16

theorem padz_len (l : List Int) (m : Nat) (h : l.length + 1 ≤ m) : (padz l m).length = m := by simp [padz]; omega
theorem padz_snoc (l : List Int) (m : Nat) (h : l.length + 1 ≤ m) : padz l m ++ [0] = padz l (m + 1) := by
  unfold padz
  have e : m + 1 - (l.length + 1) = m - (l.length + 1) + 1 := by omega
  rw [e, List.append_assoc (l ++ [128]), List.replicate_succ']
theorem padz_zero (l : List Int) : l ++ [128] = padz l (l.length + 1) := by simp [padz]
theorem lenB_len (n : Int) (k : Nat) : (lenB n k).length = k := by simp [lenB]
theorem lenB_snoc (n : Int) (k : Nat) : lenB n k ++ [n / 2 ^ (8 * k) % 256] = lenB n (k + 1) := by simp [lenB, List.range_succ]
theorem outB_snoc (s : Q) (k : Nat) : outB s k ++ [s.at_ (k / 4) / 2 ^ (8 * (k % 4)) % 256] = outB s (k + 1) := by simp [outB, List.range_succ]
theorem outB_len (s : Q) (k : Nat) : (outB s k).length = k := by simp [outB]
theorem full_len (l : List Int) : (full l).length = l.length + 9 + zz l.length := by
  unfold full
  rw [List.length_append, padz_len l _ (by omega), lenB_len]; omega
theorem full_mod (l : List Int) : (full l).length = 64 * ((full l).length / 64) := by
  rw [full_len]
  unfold zz
  omega
theorem h0_u : QU h0 := ⟨⟨by decide, by decide⟩, ⟨by decide, by decide⟩, ⟨by decide, by decide⟩, ⟨by decide, by decide⟩⟩
theorem stB_u (q : List Int) : ∀ j, QU (stB q j)
  | 0 => h0_u
  | _ + 1 => blk_u _ _
theorem full_by (l : List Int) (h : ∀ x ∈ l, 0 ≤ x ∧ x ≤ 255) : ∀ x ∈ full l, 0 ≤ x ∧ x ≤ 255 := by
  intro x hx
  simp only [full, padz, lenB, List.mem_append, List.mem_map, List.mem_replicate, List.mem_singleton] at hx
  rcases hx with ((hx | hx) | ⟨_, hx⟩) | ⟨i, _, rfl⟩
  · exact h x hx
  · subst hx; decide
  · subst hx; decide
  · omega
theorem outB_by (s : Q) (k : Nat) : ∀ x ∈ outB s k, 0 ≤ x ∧ x ≤ 255 := by
  intro x hx
  simp only [outB, List.mem_map] at hx
  obtain ⟨i, _, rfl⟩ := hx
  omega
/-- The sums of nothing and of 'abc'. -/
theorem md_nil : md [] = [212, 29, 140, 217, 143, 0, 178, 4, 233, 128, 9, 152, 236, 248, 66, 126] := by decide +kernel
theorem md_abc : md [97, 98, 99] = [144, 1, 80, 152, 60, 210, 79, 176, 214, 150, 63, 125, 40, 225, 127, 114] := by decide +kernel
end Go.Proofs.Ytipkdhcbajcamaa
