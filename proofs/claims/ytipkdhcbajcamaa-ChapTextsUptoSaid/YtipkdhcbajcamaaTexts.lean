/-
  The walk of ChapTexts. The condition: a text and bytes of at most 1048576 each.
-/
import Derived.Test.YtipkdhcbajcamaaRight
import Derived.Test.YtipkdhcbajcamaaOpen
namespace Go.Proofs.Ytipkdhcbajcamaa.chapTexts
open Go.ChangeShapes Go.WideShapes Go.ChangeAt Go.RowKit Go.Deep

set_option maxHeartbeats 4000000 in
theorem walk0 (A : Option Addr) (len cap : Nat) (l : List Int) (s : ByteArray) (w : World) (hr : Rd w 1 (ic .u8) A len l) (hb : ∀ x ∈ l, 0 ≤ x ∧ x ≤ 255) (hn : len ≤ 1048576) (hs : s.size ≤ 1048576) :
    Calls Try.prog 5 #[.slice A len cap, .string s] w fun e w' => e = .returned (.bool true) ∧ Below w.heap.size w w' := by
  have HL : Hid (l.length = len) := hr.1
  have h1 := unhex_any s
  have h2 := runhex_any s
  have h3 := unhex_any (strOf (hexL l))
  rw [sb_strOf _ (hexL_by l hb)] at h3
  unfold UnPost at h1 h2 h3
  rw [unL_hex l hb] at h3
  dsimp only at h3
  have hz : (strOf (hexL l)).size ≤ 140737488351232 := by rw [strOf_size, hexL_len, hr.1]; omega
  generalize (unL (sb s)).1 = u at *
  generalize (unL (sb s)).2 = e0 at *
  obtain ⟨S, hS⟩ : ∃ S, S = strOf (hexL l) := ⟨_, rfl⟩
  rw [← hS] at h3 hz
  replace hS := hide hS
  replace h1 := hide h1
  replace h2 := hide h2
  replace h3 := hide h3
  replace hb := hide hb
  replace hr := hide hr
  have tok : True := trivial
  go_enter Try.func5, Try.ntmps5
  go_wp2_with (first
    | (go_at_call 7; (with_reducible refine (awake_any _).mono ?_); rintro e w1 ⟨rfl, m1⟩
       have r1 := hide (hr.out.mod m1 (fun _ _ h => h))
       replace m1 := hide m1)
    | (go_at_call 10; have _t := tok; (with_reducible refine (h1.out _ (by omega)).mono ?_); rintro e w2 ⟨v2, rfl, q2, m2⟩; clear tok
       have r2 := hide (r1.out.mod m2 (fun _ _ h => h))
       have M2 := hide (m1.out.trans m2 (fun _ _ h => h))
       obtain ⟨A2, c2, hv2, -, -⟩ := q2.slice
       replace q2 := hide (q2.rd (ic_len _) hv2)
       clear m2
       subst hv2)
    | (go_at_call 11; (with_reducible refine (h2.out _ (by omega)).mono ?_); rintro e w3 ⟨v3, rfl, q3, m3⟩
       have r3 := hide (r2.out.mod m3 (fun _ _ h => h))
       have M3 := hide (M2.out.trans m3 (fun _ _ h => h))
       have q23 := hide (q2.out.mod m3 (fun _ _ h => h))
       obtain ⟨A3, c3, hv3, -, -⟩ := q3.slice
       replace q3 := hide (q3.rd (ic_len _) hv3)
       clear m3
       subst hv3)
    | (go_at_call 12; (with_reducible refine (hex_any _ _ _ l _ r3.out (by omega) hb).mono ?_); rintro e w4 ⟨rfl, m4⟩
       rw [← hS.out]
       have r4 := hide (r3.out.mod m4 (fun _ _ h => h))
       have M4 := hide (M3.out.trans m4 (fun _ _ h => h))
       have q24 := hide (q23.out.mod m4 (fun _ _ h => h))
       have q34 := hide (q3.out.mod m4 (fun _ _ h => h))
       clear m4)
    | (go_at_call 10; (with_reducible refine (h3.out _ (by omega)).mono ?_); rintro e w5 ⟨v5, rfl, q5, m5⟩
       have r5 := hide (r4.out.mod m5 (fun _ _ h => h))
       have M5 := hide (M4.out.trans m5 (fun _ _ h => h))
       have x2 := conv_str (c := c2) (q24.out.mod m5 (fun _ _ h => h))
       have x3 := conv_str (c := c3) (q34.out.mod m5 (fun _ _ h => h))
       obtain ⟨A5, c5, hv5, -, -⟩ := q5.slice
       have x5 : ∀ n, (convert 22 9 (.slice A5 l.length c5)).run Try.prog (w5.drewN n) = .ok (.string (strOf l)) (w5.drewN n) := fun n => conv_str (w := w5.drewN n) (q5.rd (ic_len _) hv5)
       have x6 : ∀ n, (convert 22 9 (.slice A len cap)).run Try.prog (w5.drewN n) = .ok (.string (strOf l)) (w5.drewN n) := fun n => conv_str (w := w5.drewN n) r5.out
       clear m5 q5
       subst hv5)
    | (go_at_call 13; (with_reducible refine (rhex_any _ _ _ l _ r5.out (by omega) hb).mono ?_); rintro e w6 ⟨rfl, n6, rfl⟩
       rw [← hS.out]))
  go_ret
  exact ⟨rfl, (M5.out.drewN _).below (Nat.le_refl _) (fun _ h => h.elim)⟩
end Go.Proofs.Ytipkdhcbajcamaa.chapTexts
