/-
  Sense, the program's and the reference's, at any page: they answer alike. Condition: pages in a block of their own.
-/
import Derived.Test.YtieieinaijopnaaSBad
import Derived.Test.YtieieinaijopnaaTells
import Derived.Test.YtieieinaijopnaaRSense
namespace Go.Proofs.Ytieieinaijopnaa
/-- What Sense says: of a page that is one of the three, and of another. -/
def Says (c : C) (n s : V) (w : World) (e : Ending) (w' : World) : Prop := if c.page = 8 ∨ c.page = 10 ∨ c.page = 63 then Told c n s w e w' else NoPage w e w'
theorem no_page {c : C} (h : ¬ (c.page = 8 ∨ c.page = 10 ∨ c.page = 63)) : (c.page == 8) = false ∧ (c.page == 10) = false ∧ (c.page == 63) = false :=
  ⟨by simpa using fun e => h (.inl e), by simpa using fun e => h (.inr (.inl e)), by simpa using fun e => h (.inr (.inr e))⟩
theorem sense_any (p : Nat) (c : C) (n s : V) (w : World) (hpg : PG w p n s) : Calls Try.prog 10 #[.pointer (some ⟨p, 0, none⟩), cv c] w (Says c n s w) := by
  by_cases h : c.page = 8 ∨ c.page = 10 ∨ c.page = 63
  · exact (sense_good p c n s w hpg h).mono fun e w' k => by unfold Says; rw [if_pos h]; exact k
  · obtain ⟨j1, j2, j3⟩ := no_page h
    exact (sense_bad p c n s w hpg j1 j2 j3).mono fun e w' k => by unfold Says; rw [if_neg h]; exact k
theorem rsense_any (p : Nat) (c : C) (n s : V) (w : World) (hpg : RG w p (bitsV n) (bitsV s)) : Calls Try.prog 17 #[.pointer (some ⟨p, 0, none⟩), cv c] w (Says c n s w) := by
  by_cases h : c.page = 8 ∨ c.page = 10 ∨ c.page = 63
  · exact (rsense_good p c n s w hpg h).mono fun e w' k => by unfold Says; rw [if_pos h]; exact k
  · obtain ⟨j1, j2, j3⟩ := no_page h
    exact (rsense_bad p c _ _ w hpg j1 j2 j3).mono fun e w' k => by unfold Says; rw [if_neg h]; exact k
end Go.Proofs.Ytieieinaijopnaa
