/-
  Plain facts: pages that are brought as they were told. No condition beyond what each states.
-/
import Derived.Test.YtieieinaijopnaaSelw
namespace Go.Proofs.Ytieieinaijopnaa
open Go.RowKit
/-- A page without a fault is taken, whatever the values. -/
theorem PageR.det {R : List Int} {at_ : Int} {v v' : V} {n : Int} {s : SN} {ok : Bool} (h : PageR R at_ v v' n s ok) (h8 : gi R 0 = 8 ∨ gi R 0 = 10) (hl : wn (gi R 0) ≤ R.length) (h1 : gi R 1 = w1b (gi R 0)) (hc : Clean R (gi R 0) (wn (gi R 0))) :
    ok = true ∧ v' = updV R v ∧ n = wn (gi R 0) := by
  have hw : 2 ≤ wn (gi R 0) := by rcases h8 with h8 | h8 <;> rw [h8] <;> decide
  rcases h with ⟨ha, hb, -⟩ | ⟨-, ⟨ha, -⟩ | ⟨-, ha, -⟩ | ⟨-, -, i, b, ⟨f1, f2, f3, -, f5, -⟩, -⟩ | ⟨-, -, -, q1, q2, -, q3⟩⟩
  · rcases h8 with h8 | h8
    · exact absurd h8 ha
    · exact absurd h8 hb
  · rcases ha with ha | ⟨ha, -⟩ <;> omega
  · exact absurd h1 ha
  · rw [hc i f1 f2 b f3] at f5; cases f5
  · exact ⟨q3, q1, q2⟩
/-- Is R a page with values v, and more behind it? -/
def IsCach (R : List Int) (v : V) : Prop := ∃ X, R = cachL v ++ X
def IsCtl (R : List Int) (v : V) : Prop := ∃ X, R = ctlL v ++ X
theorem cach_det {R : List Int} {u : V} (h : IsCach R u) {at_ : Int} {v v' : V} {n : Int} {s : SN} {ok : Bool} (hp : PageR R at_ v v' n s ok) : ok = true ∧ v' = ⟨u.a, v.b, v.c⟩ ∧ n = 20 := by
  obtain ⟨X, rfl⟩ := h
  have hl : (cachL u).length = 20 := rfl
  have g : ∀ j, j < 20 → gi (cachL u ++ X) j = gi (cachL u) j := fun j hj => gi_append_left _ _ _ (by rw [hl]; exact hj)
  have e0 : gi (cachL u ++ X) 0 = 8 := by rw [g 0 (by decide)]; rfl
  have hc : Clean (cachL u ++ X) 8 20 := fun j h1 h2 b h3 => by
    rw [g j h2]
    have : ∀ j, j < 20 → 2 ≤ j → ∀ b, b < 8 → bitT (gi (cachL u) j) (canB 8 j) b = false := by
      obtain ⟨a, c, d⟩ := u
      cases a <;> cases c <;> cases d <;> decide +kernel
    exact this j h2 h1 b (by omega)
  have hd := hp.det (.inl e0) (by rw [e0]; show 20 ≤ _; simp [hl]) (by rw [e0, g 1 (by decide)]; rfl) (by rw [e0]; exact hc)
  refine ⟨hd.1, ?_, by rw [hd.2.2, e0]; rfl⟩
  rw [hd.2.1, updV, if_pos e0, g 2 (by decide)]
  obtain ⟨a, c, d⟩ := u
  cases a <;> rfl
theorem ctl_det {R : List Int} {u : V} (h : IsCtl R u) {at_ : Int} {v v' : V} {n : Int} {s : SN} {ok : Bool} (hp : PageR R at_ v v' n s ok) : ok = true ∧ v' = ⟨v.a, u.b, u.c⟩ ∧ n = 12 := by
  obtain ⟨X, rfl⟩ := h
  have hl : (ctlL u).length = 12 := rfl
  have g : ∀ j, j < 12 → gi (ctlL u ++ X) j = gi (ctlL u) j := fun j hj => gi_append_left _ _ _ (by rw [hl]; exact hj)
  have e0 : gi (ctlL u ++ X) 0 = 10 := by rw [g 0 (by decide)]; rfl
  have hc : Clean (ctlL u ++ X) 10 12 := fun j h1 h2 b h3 => by
    rw [g j h2]
    have : ∀ j, j < 12 → 2 ≤ j → ∀ b, b < 8 → bitT (gi (ctlL u) j) (canB 10 j) b = false := by
      obtain ⟨a, c, d⟩ := u
      cases a <;> cases c <;> cases d <;> decide +kernel
    exact this j h2 h1 b (by omega)
  have hd := hp.det (.inr e0) (by rw [e0]; show 12 ≤ _; simp [hl]) (by rw [e0, g 1 (by decide)]; rfl) (by rw [e0]; exact hc)
  refine ⟨hd.1, ?_, by rw [hd.2.2, e0]; rfl⟩
  rw [hd.2.1, updV, if_neg (by rw [e0]; decide), g 2 (by decide), g 4 (by decide)]
  obtain ⟨a, c, d⟩ := u
  cases c <;> cases d <;> rfl

/-- Where the steps can stand, if two pages fill the rest. -/
theorem steps_two {L : List Int} {h n1 n2 : Nat} {f g : V → V} (hL : L.length = h + n1 + n2)
    (d1 : ∀ v v' n s ok, PageR (L.drop h) h v v' n s ok → ok = true ∧ v' = f v ∧ n = (n1 : Int))
    (d2 : ∀ v v' n s ok, PageR (L.drop (h + n1)) ((h + n1 : Nat) : Int) v v' n s ok → ok = true ∧ v' = g v ∧ n = (n2 : Int)) {v : V} {b : Nat} {v1 : V} (hs : Steps L h v b v1) :
    (b = h ∧ v1 = v) ∨ (b = h + n1 ∧ v1 = f v) ∨ (b = h + n1 + n2 ∧ v1 = g (f v)) := by
  induction hs with
  | refl => exact .inl ⟨rfl, rfl⟩
  | step _ hlt hp ih =>
    rcases ih with ⟨rfl, rfl⟩ | ⟨rfl, rfl⟩ | ⟨rfl, rfl⟩
    · obtain ⟨-, e1, e2⟩ := d1 _ _ _ _ _ hp
      exact .inr (.inl ⟨by omega, e1⟩)
    · obtain ⟨-, e1, e2⟩ := d2 _ _ _ _ _ hp
      exact .inr (.inr ⟨by omega, e1⟩)
    · omega
theorem steps_one {L : List Int} {h n1 : Nat} {f : V → V} (hL : L.length = h + n1)
    (d1 : ∀ v v' n s ok, PageR (L.drop h) h v v' n s ok → ok = true ∧ v' = f v ∧ n = (n1 : Int)) {v : V} {b : Nat} {v1 : V} (hs : Steps L h v b v1) :
    (b = h ∧ v1 = v) ∨ (b = h + n1 ∧ v1 = f v) := by
  induction hs with
  | refl => exact .inl ⟨rfl, rfl⟩
  | step _ hlt hp ih =>
    rcases ih with ⟨rfl, rfl⟩ | ⟨rfl, rfl⟩
    · obtain ⟨-, e1, e2⟩ := d1 _ _ _ _ _ hp
      exact .inr ⟨by omega, e1⟩
    · omega
/-- Select of two pages that are well. -/
theorem sel_two {L : List Int} {long save : Bool} {n1 n2 : Nat} {f g : V → V} (hL : L.length = hdN long + n1 + n2) (h1 : 0 < n1) (h2 : 0 < n2) (hh : HeadOk L long)
    (d1 : ∀ v v' n s ok, PageR (L.drop (hdN long)) (hdN long) v v' n s ok → ok = true ∧ v' = f v ∧ n = (n1 : Int))
    (d2 : ∀ v v' n s ok, PageR (L.drop (hdN long + n1)) ((hdN long + n1 : Nat) : Int) v v' n s ok → ok = true ∧ v' = g v ∧ n = (n2 : Int)) {n s n' s' : V} {ch ok : Bool} {sn : SN}
    (h : SelR L long save n s ch sn ok n' s') : ok = true ∧ n' = g (f n) ∧ ch = (n' != n) ∧ s' = if save then n' else s := by
  have h0 : 0 < hdN long := by cases long <;> decide
  rcases h with ⟨ha, -⟩ | ⟨-, ⟨ha, -⟩ | ⟨-, i, i1, i2, i3, -⟩ | ⟨-, -, b, v1, v2, k, hs, hb, hp, -⟩ | ⟨-, -, v1, hs, q1, q2, q3, q4, q5⟩⟩
  · omega
  · omega
  · exact absurd (hh i i1 i2) i3
  · rcases steps_two hL d1 d2 hs with ⟨rfl, rfl⟩ | ⟨rfl, rfl⟩ | ⟨rfl, rfl⟩
    · have := (d1 _ _ _ _ _ hp).1; cases this
    · have := (d2 _ _ _ _ _ hp).1; cases this
    · omega
  · rcases steps_two hL d1 d2 hs with ⟨e, -⟩ | ⟨e, -⟩ | ⟨-, e⟩
    · omega
    · omega
    · exact ⟨q3, by rw [q4, e], by rw [q1, q4], by rw [q5, q4]⟩
theorem sel_one {L : List Int} {long save : Bool} {n1 : Nat} {f : V → V} (hL : L.length = hdN long + n1) (h1 : 0 < n1) (hh : HeadOk L long)
    (d1 : ∀ v v' n s ok, PageR (L.drop (hdN long)) (hdN long) v v' n s ok → ok = true ∧ v' = f v ∧ n = (n1 : Int)) {n s n' s' : V} {ch ok : Bool} {sn : SN}
    (h : SelR L long save n s ch sn ok n' s') : ok = true ∧ n' = f n ∧ ch = (n' != n) ∧ s' = if save then n' else s := by
  have h0 : 0 < hdN long := by cases long <;> decide
  rcases h with ⟨ha, -⟩ | ⟨-, ⟨ha, -⟩ | ⟨-, i, i1, i2, i3, -⟩ | ⟨-, -, b, v1, v2, k, hs, hb, hp, -⟩ | ⟨-, -, v1, hs, q1, q2, q3, q4, q5⟩⟩
  · omega
  · omega
  · exact absurd (hh i i1 i2) i3
  · rcases steps_one hL d1 hs with ⟨rfl, rfl⟩ | ⟨rfl, rfl⟩
    · have := (d1 _ _ _ _ _ hp).1; cases this
    · omega
  · rcases steps_one hL d1 hs with ⟨e, -⟩ | ⟨-, e⟩
    · omega
    · exact ⟨q3, by rw [q4, e], by rw [q1, q4], by rw [q5, q4]⟩
end Go.Proofs.Ytieieinaijopnaa
