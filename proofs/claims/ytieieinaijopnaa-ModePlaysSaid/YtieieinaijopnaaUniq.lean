/-
  Plain facts: what page and Select answer is told by the bytes. No condition beyond what each states.
-/
import Derived.Test.YtieieinaijopnaaSelw
namespace Go.Proofs.Ytieieinaijopnaa
open Go.RowKit
set_option linter.unusedVariables false
theorem First.uniq {R : List Int} {r0 : Int} {i b i' b' : Nat} (h : First R r0 i b) (k : First R r0 i' b') : i = i' ∧ b = b' := by
  obtain ⟨h1, h2, h3, h4, h5, h6⟩ := h
  obtain ⟨k1, k2, k3, k4, k5, k6⟩ := k
  have e : i = i' := by
    rcases Nat.lt_trichotomy i i' with hl | hl | hl
    · rw [k4 i h1 hl b h3] at h5; cases h5
    · exact hl
    · rw [h4 i' k1 hl b' k3] at k5; cases k5
  subst e
  refine ⟨rfl, ?_⟩
  rcases Nat.lt_trichotomy b b' with hl | hl | hl
  · rw [h6 b' hl k3] at k5; cases k5
  · exact hl
  · rw [k6 b hl h3] at h5; cases h5
theorem First.not_clean {R : List Int} {r0 : Int} {i b : Nat} (h : First R r0 i b) (k : Clean R r0 (wn r0)) : False := by
  obtain ⟨h1, h2, h3, h4, h5, h6⟩ := h
  rw [k i h1 h2 b h3] at h5
  cases h5
theorem PageR.uniq {R : List Int} {at_ : Int} {v v1 v2 : V} {n1 n2 : Int} {s1 s2 : SN} {o1 o2 : Bool} (h : PageR R at_ v v1 n1 s1 o1) (k : PageR R at_ v v2 n2 s2 o2) : v1 = v2 ∧ n1 = n2 ∧ s1 = s2 ∧ o1 = o2 := by
  have hw : gi R 0 = 8 ∨ gi R 0 = 10 → 12 ≤ wn (gi R 0) := by
    intro h8
    rcases h8 with h8 | h8 <;> rw [h8] <;> decide
  rcases h with ⟨a1, a2, a3, a4, a5, a6⟩ | ⟨h8, ⟨a1, a3, a4, a5, a6⟩ | ⟨a1, a2, a3, a4, a5, a6⟩ | ⟨a1, a2, i, b, hf, a3, a4, a5, a6⟩ | ⟨a1, a2, hc, a3, a4, a5, a6⟩⟩ <;>
  rcases k with ⟨b1, b2, b3, b4, b5, b6⟩ | ⟨k8, ⟨b1, b3, b4, b5, b6⟩ | ⟨b1, b2, b3, b4, b5, b6⟩ | ⟨b1, b2, j, c, kf, b3, b4, b5, b6⟩ | ⟨b1, b2, kc, b3, b4, b5, b6⟩⟩
  all_goals first
    | exact ⟨a3.trans b3.symm, a4.trans b4.symm, a5.trans b5.symm, a6.trans b6.symm⟩
    | (obtain ⟨rfl, rfl⟩ := hf.uniq kf
       exact ⟨a3.trans b3.symm, a4.trans b4.symm, a5.trans b5.symm, a6.trans b6.symm⟩)
    | exact (hf.not_clean kc).elim
    | exact (kf.not_clean hc).elim
    | (exfalso
       have h12 := hw (by omega)
       clear hw a3 a4 a5 a6 b3 b4 b5 b6
       omega)
theorem Steps.head {L : List Int} {a b : Nat} {v v1 : V} (h : Steps L a v b v1) : (b = a ∧ v1 = v) ∨ ∃ (n : Nat) (v' : V), a < L.length ∧ PageR (L.drop a) a v v' n noSense true ∧ Steps L (a + n) v' b v1 := by
  induction h with
  | refl => exact .inl ⟨rfl, rfl⟩
  | step h1 hlt hp ih =>
    rcases ih with ⟨rfl, rfl⟩ | ⟨n, v', h3, h4, h5⟩
    · exact .inr ⟨_, _, hlt, hp, .refl _ _⟩
    · exact .inr ⟨n, v', h3, h4, h5.step hlt hp⟩
theorem Steps.total {L : List Int} {a b c : Nat} {v v1 v2 : V} (h : Steps L a v b v1) (k : Steps L a v c v2) : Steps L b v1 c v2 ∨ Steps L c v2 b v1 := by
  induction h with
  | refl => exact .inl k
  | step h1 hlt hp ih =>
    rcases ih k with ih | ih
    · rcases ih.head with ⟨rfl, rfl⟩ | ⟨n, v', h3, h4, h5⟩
      · exact .inr (.step (.refl _ _) hlt hp)
      · obtain ⟨e1, e2, -, -⟩ := hp.uniq h4
        obtain rfl := e1
        obtain rfl := Int.ofNat.inj e2
        exact .inl h5
    · exact .inr (ih.step hlt hp)
theorem Steps.fin {L : List Int} {b c : Nat} {v1 v2 : V} (h : Steps L b v1 c v2) (hb : L.length ≤ b) : c = b ∧ v2 = v1 := by
  rcases h.head with h | ⟨n, v', h3, -, -⟩
  · exact h
  · omega
theorem Steps.stop {L : List Int} {b c : Nat} {v1 v2 v' : V} {n : Int} {sn : SN} (h : Steps L b v1 c v2) (hb : PageR (L.drop b) b v1 v' n sn false) : c = b ∧ v2 = v1 := by
  rcases h.head with h | ⟨m, v'', h3, h4, -⟩
  · exact h
  · have := (hb.uniq h4).2.2.2; cases this
theorem SelR.uniq {L : List Int} {long save c1 c2 o1 o2 : Bool} {n s n1 n2 s1 s2 : V} {t1 t2 : SN} (h : SelR L long save n s c1 t1 o1 n1 s1) (k : SelR L long save n s c2 t2 o2 n2 s2) : c1 = c2 ∧ t1 = t2 ∧ o1 = o2 ∧ n1 = n2 ∧ s1 = s2 := by
  rcases h with ⟨a1, a2, a3, a4, a5, a6⟩ | ⟨a0, ⟨a1, a2, a3, a4, a5, a6⟩ | ⟨a1, i, i1, i2, i3, i4, a2, a3, a4, a5, a6⟩ | ⟨a1, ah, b, v1, v2, x, hs, hb, hp, a2, a4, a5, a6⟩ | ⟨a1, ah, v1, hs, a2, a3, a4, a5, a6⟩⟩ <;>
  rcases k with ⟨b1, b2, b3, b4, b5, b6⟩ | ⟨b0, ⟨b1, b2, b3, b4, b5, b6⟩ | ⟨b1, j, j1, j2, j3, j4, b2, b3, b4, b5, b6⟩ | ⟨b1, bh, c, u1, u2, y, ks, kb, kp, b2, b4, b5, b6⟩ | ⟨b1, bh, u1, ks, b2, b3, b4, b5, b6⟩⟩
  all_goals first
    | exact ⟨a2.trans b2.symm, a3.trans b3.symm, a4.trans b4.symm, a5.trans b5.symm, a6.trans b6.symm⟩
    | (exfalso; clear a2 a4 a5 a6 b2 b4 b5 b6; omega)
    | exact absurd (ah j j1 j2) j3
    | exact absurd (bh i i1 i2) i3
    | (have e : i = j := by
         rcases Nat.lt_trichotomy i j with hl | hl | hl
         · exact absurd (j4 i hl i2) i3
         · exact hl
         · exact absurd (i4 j hl j2) j3
       subst e
       exact ⟨a2.trans b2.symm, a3.trans b3.symm, a4.trans b4.symm, a5.trans b5.symm, a6.trans b6.symm⟩)
    | (have e : c = b ∧ u1 = v1 := by
         rcases hs.total ks with q | q
         · exact q.stop hp
         · obtain ⟨e1, e2⟩ := q.stop kp
           exact ⟨e1.symm, e2.symm⟩
       obtain ⟨rfl, rfl⟩ := e
       exact ⟨a2.trans b2.symm, (hp.uniq kp).2.2.1, a4.trans b4.symm, a5.trans b5.symm, a6.trans b6.symm⟩)
    | (exfalso
       rcases hs.total ks with q | q
       · have := q.stop hp; omega
       · have := q.fin (Nat.le_refl _); omega)
    | (exfalso
       rcases ks.total hs with q | q
       · have := q.stop kp; omega
       · have := q.fin (Nat.le_refl _); omega)
    | (have e : u1 = v1 := by
         rcases hs.total ks with q | q
         · exact (q.fin (Nat.le_refl _)).2
         · exact (q.fin (Nat.le_refl _)).2.symm
       subst e
       exact ⟨a2.trans b2.symm, a3.trans b3.symm, a4.trans b4.symm, a5.trans b5.symm, a6.trans b6.symm⟩)
end Go.Proofs.Ytieieinaijopnaa
