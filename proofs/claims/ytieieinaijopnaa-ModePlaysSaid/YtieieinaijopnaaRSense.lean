/-
  The reference's Sense where the page is one of the three. Condition: the reference's pages in a block of their own.
-/
import Derived.Test.YtieieinaijopnaaRSense1
import Derived.Test.YtieieinaijopnaaRSense2
import Derived.Test.YtieieinaijopnaaRSense3
import Derived.Test.YtieieinaijopnaaRSenseO
namespace Go.Proofs.Ytieieinaijopnaa
theorem rsense_good (p : Nat) (c : C) (n s : V) (w : World) (hpg : RG w p (bitsV n) (bitsV s)) (hp : c.page = 8 ∨ c.page = 10 ∨ c.page = 63) : Calls Try.prog 17 #[.pointer (some ⟨p, 0, none⟩), cv c] w (Told c n s w) := by
  by_cases h1 : c.control = 1
  · rcases hp with hp | hp | hp <;> cases hl : c.long <;> cases hd : n.c
    · exact rsense_1_8_FF p c n s w hpg h1 hp hl hd
    · exact rsense_1_8_FT p c n s w hpg h1 hp hl hd
    · exact rsense_1_8_TF p c n s w hpg h1 hp hl hd
    · exact rsense_1_8_TT p c n s w hpg h1 hp hl hd
    · exact rsense_1_10_FF p c n s w hpg h1 hp hl hd
    · exact rsense_1_10_FT p c n s w hpg h1 hp hl hd
    · exact rsense_1_10_TF p c n s w hpg h1 hp hl hd
    · exact rsense_1_10_TT p c n s w hpg h1 hp hl hd
    · exact rsense_1_63_FF p c n s w hpg h1 hp hl hd
    · exact rsense_1_63_FT p c n s w hpg h1 hp hl hd
    · exact rsense_1_63_TF p c n s w hpg h1 hp hl hd
    · exact rsense_1_63_TT p c n s w hpg h1 hp hl hd
  · by_cases h2 : c.control = 2
    · rcases hp with hp | hp | hp <;> cases hl : c.long <;> cases hd : n.c
      · exact rsense_2_8_FF p c n s w hpg h2 hp hl hd
      · exact rsense_2_8_FT p c n s w hpg h2 hp hl hd
      · exact rsense_2_8_TF p c n s w hpg h2 hp hl hd
      · exact rsense_2_8_TT p c n s w hpg h2 hp hl hd
      · exact rsense_2_10_FF p c n s w hpg h2 hp hl hd
      · exact rsense_2_10_FT p c n s w hpg h2 hp hl hd
      · exact rsense_2_10_TF p c n s w hpg h2 hp hl hd
      · exact rsense_2_10_TT p c n s w hpg h2 hp hl hd
      · exact rsense_2_63_FF p c n s w hpg h2 hp hl hd
      · exact rsense_2_63_FT p c n s w hpg h2 hp hl hd
      · exact rsense_2_63_TF p c n s w hpg h2 hp hl hd
      · exact rsense_2_63_TT p c n s w hpg h2 hp hl hd
    · by_cases h3 : c.control = 3
      · rcases hp with hp | hp | hp <;> cases hl : c.long <;> cases hd : n.c
        · exact rsense_3_8_FF p c n s w hpg h3 hp hl hd
        · exact rsense_3_8_FT p c n s w hpg h3 hp hl hd
        · exact rsense_3_8_TF p c n s w hpg h3 hp hl hd
        · exact rsense_3_8_TT p c n s w hpg h3 hp hl hd
        · exact rsense_3_10_FF p c n s w hpg h3 hp hl hd
        · exact rsense_3_10_FT p c n s w hpg h3 hp hl hd
        · exact rsense_3_10_TF p c n s w hpg h3 hp hl hd
        · exact rsense_3_10_TT p c n s w hpg h3 hp hl hd
        · exact rsense_3_63_FF p c n s w hpg h3 hp hl hd
        · exact rsense_3_63_FT p c n s w hpg h3 hp hl hd
        · exact rsense_3_63_TF p c n s w hpg h3 hp hl hd
        · exact rsense_3_63_TT p c n s w hpg h3 hp hl hd
      · have k1 : (c.control == 1) = false := by simpa using h1
        have k2 : (c.control == 2) = false := by simpa using h2
        have k3 : (c.control == 3) = false := by simpa using h3
        rcases hp with hp | hp | hp <;> cases hl : c.long <;> cases hd : n.c
        · exact rsense_o_8_FF p c n s w hpg k1 k2 k3 hp hl hd
        · exact rsense_o_8_FT p c n s w hpg k1 k2 k3 hp hl hd
        · exact rsense_o_8_TF p c n s w hpg k1 k2 k3 hp hl hd
        · exact rsense_o_8_TT p c n s w hpg k1 k2 k3 hp hl hd
        · exact rsense_o_10_FF p c n s w hpg k1 k2 k3 hp hl hd
        · exact rsense_o_10_FT p c n s w hpg k1 k2 k3 hp hl hd
        · exact rsense_o_10_TF p c n s w hpg k1 k2 k3 hp hl hd
        · exact rsense_o_10_TT p c n s w hpg k1 k2 k3 hp hl hd
        · exact rsense_o_63_FF p c n s w hpg k1 k2 k3 hp hl hd
        · exact rsense_o_63_FT p c n s w hpg k1 k2 k3 hp hl hd
        · exact rsense_o_63_TF p c n s w hpg k1 k2 k3 hp hl hd
        · exact rsense_o_63_TT p c n s w hpg k1 k2 k3 hp hl hd
end Go.Proofs.Ytieieinaijopnaa
