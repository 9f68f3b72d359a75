/-
  The program's queues and the document's side by side: each call of both keeps them alike. Conditions: both hold the same eight lists, in memory apart.
-/
import Derived.Test.YtkkhnolokabbgaaRefNext
namespace Go.Proofs.Ytkkhnolokabbgaa
open Go.RowKit

/-- Both in one world W: the program's at b hold L, the document's at c hold M; all of it lies from B on and below N, apart. -/
def PI (B N b c : Nat) (w W : World) (L M : Nat → List Int) : Prop :=
  ∃ F G : Nat → Prop, Q W b L F ∧ R W c M G ∧ (∀ k, F k → ¬ G k) ∧ (∀ k, F k → B ≤ k ∧ k < N) ∧ (∀ k, G k → B ≤ k ∧ k < N) ∧ Below B w W ∧ B ≤ N ∧ N ≤ W.heap.size

theorem PI.up {B N N' b c : Nat} {w W : World} {L M : Nat → List Int} (h : PI B N b c w W L M) (h1 : N ≤ N') (h2 : N' ≤ W.heap.size) : PI B N' b c w W L M := by
  obtain ⟨F, G, hq, hr, hd, hF, hG, hb, hB, hN⟩ := h
  exact ⟨F, G, hq, hr, hd, fun k hk => ⟨(hF k hk).1, Nat.lt_of_lt_of_le (hF k hk).2 h1⟩, fun k hk => ⟨(hG k hk).1, Nat.lt_of_lt_of_le (hG k hk).2 h1⟩, hb, Nat.le_trans hB h1, h2⟩
theorem PI.drewN {B N b c : Nat} {w W : World} {L M : Nat → List Int} (h : PI B N b c w W L M) (n : Nat) : PI B N b c w (W.drewN n) L M := by
  obtain ⟨F, G, hq, hr, hd, hF, hG, hb, hB, hN⟩ := h
  exact ⟨F, G, hq.drewN n, hr.drewN n, hd, hF, hG, below_drewN hb n, hB, hN⟩
/-- Whatever turns from N on touches neither. -/
theorem PI.mod {B N b c : Nat} {w W W' : World} {L M : Nat → List Int} (h : PI B N b c w W L M) {E : Nat → Prop} (hm : Mod E W W') (hE : ∀ k, E k → N ≤ k) : PI B N b c w W' L M := by
  obtain ⟨F, G, hq, hr, hd, hF, hG, hb, hB, hN⟩ := h
  refine ⟨F, G, hq.mod hm fun k hk he => ?_, hr.mod hm fun k hk he => ?_, hd, hF, hG, hb.trans (hm.below (Nat.le_trans hB hN) fun k hk => Nat.le_trans hB (hE k hk)), hB, Nat.le_trans hN hm.size⟩
  · have := (hF k hk).2; have := hE k he; omega
  · have := (hG k hk).2; have := hE k he; omega
/-- One call on the program's queues, where PI holds. -/
theorem PI.onQ {B N b c : Nat} {w W : World} {L L' M : Nat → List Int} (h : PI B N b c w W L M) {f : FuncId} {args : Array Value} {P : Ending → Prop}
    (hs : ∀ F, Q W b L F → Calls Try.prog f args W fun e W' => P e ∧ Q W' b L' (Plus F W W') ∧ Mod F W W') : Calls Try.prog f args W fun e W' => P e ∧ Hid (PI B W'.heap.size b c w W' L' M) := by
  obtain ⟨F, G, hq, hr, hd, hF, hG, hb, hB, hN⟩ := h
  refine (hs F hq).mono fun e W' ⟨he, h1, h2⟩ => ⟨he, hide ⟨_, G, h1, hr.mod h2 fun k hk hf => hd k hf hk, ?_, ?_, fun k hk => ⟨(hG k hk).1, ?_⟩, hb.trans (h2.below (Nat.le_trans hB hN) fun k hk => (hF k hk).1), ?_, Nat.le_refl _⟩⟩
  · rintro k (hk | ⟨hk, _⟩) hg
    · exact hd k hk hg
    · have := (hG k hg).2; omega
  · rintro k (hk | ⟨hk, hk'⟩)
    · exact ⟨(hF k hk).1, Nat.lt_of_lt_of_le (hF k hk).2 (Nat.le_trans hN h2.size)⟩
    · exact ⟨by omega, hk'⟩
  · have := (hG k hk).2; have := h2.size; omega
  · have := h2.size; omega
/-- One call on the document's. -/
theorem PI.onR {B N b c : Nat} {w W : World} {L M M' : Nat → List Int} (h : PI B N b c w W L M) {f : FuncId} {args : Array Value} {P : Ending → Prop}
    (hs : ∀ G, R W c M G → Calls Try.prog f args W fun e W' => P e ∧ R W' c M' (Plus G W W') ∧ Mod G W W') : Calls Try.prog f args W fun e W' => P e ∧ Hid (PI B W'.heap.size b c w W' L M') := by
  obtain ⟨F, G, hq, hr, hd, hF, hG, hb, hB, hN⟩ := h
  refine (hs G hr).mono fun e W' ⟨he, h1, h2⟩ => ⟨he, hide ⟨F, _, hq.mod h2 fun k hk hg => hd k hk hg, h1, ?_, fun k hk => ⟨(hF k hk).1, ?_⟩, ?_, hb.trans (h2.below (Nat.le_trans hB hN) fun k hk => (hG k hk).1), ?_, Nat.le_refl _⟩⟩
  · rintro k hf (hk | ⟨hk, _⟩)
    · exact hd k hf hk
    · have := (hF k hf).2; omega
  · have := (hF k hk).2; have := h2.size; omega
  · rintro k (hk | ⟨hk, hk'⟩)
    · exact ⟨(hG k hk).1, Nat.lt_of_lt_of_le (hG k hk).2 (Nat.le_trans hN h2.size)⟩
    · exact ⟨by omega, hk'⟩
  · have := h2.size; omega
theorem PI.leN {B N b c : Nat} {w W : World} {L M : Nat → List Int} (h : PI B N b c w W L M) : N ≤ W.heap.size := by obtain ⟨_, _, _, _, _, _, _, _, _, h⟩ := h; exact h
theorem PI.top {B N b c : Nat} {w W : World} {L M : Nat → List Int} (h : PI B N b c w W L M) : PI B W.heap.size b c w W L M := h.up h.leN (Nat.le_refl _)
theorem PI.below {B N b c : Nat} {w W : World} {L M : Nat → List Int} (h : PI B N b c w W L M) : Below B w W := by obtain ⟨_, _, _, _, _, _, _, h, _, _⟩ := h; exact h
theorem PI.leB {B N b c : Nat} {w W : World} {L M : Nat → List Int} (h : PI B N b c w W L M) : B ≤ W.heap.size := by obtain ⟨_, _, _, _, _, _, _, _, h, h'⟩ := h; exact Nat.le_trans h h'

/-- The same law for both: what is held behind a call. -/
abbrev PJ (B b c : Nat) (w W : World) (L M : Nat → List Int) : Prop := PI B W.heap.size b c w W L M

def addN (L : Nat → List Int) (n c : Int) : Nat → List Int := if 0 ≤ n ∧ n < 8 then put L n.toNat (addL (L n.toNat) c) else L

section
variable {B N b c : Nat} {w W : World} {L M : Nat → List Int}
theorem PI.add (h : PI B N b c w W L M) (n x : Int) (hx : U16 x) :
    Calls Try.prog 9 #[.pointer (some ⟨b, 0, none⟩), .int .i64 n, .int .u16 x] W fun e W' => e = .returned (.tuple #[]) ∧ Hid (PJ B b c w W' (addN L n x) M) := by
  by_cases hn : 0 ≤ n ∧ n < 8
  · rw [addN, if_pos hn]
    exact h.onQ fun F hq => add_some b n x L F W hn.1 hn.2 hx hq
  · rw [addN, if_neg hn]
    exact (add_out b n x W (by omega)).mono fun e W' ⟨he, hw⟩ => ⟨he, by subst hw; exact hide h.top⟩
theorem PI.radd (h : PI B N b c w W L M) (n x : Int) (hx : U16 x) :
    Calls Try.prog 15 #[.pointer (some ⟨c, 0, none⟩), .int .i64 n, .int .u16 x] W fun e W' => e = .returned (.tuple #[]) ∧ Hid (PJ B b c w W' L (addN M n x)) := by
  by_cases hn : 0 ≤ n ∧ n < 8
  · rw [addN, if_pos hn]
    exact h.onR fun G hr => radd_some c n x M G W hn.1 hn.2 hx hr
  · rw [addN, if_neg hn]
    exact (radd_out c n x W (by omega)).mono fun e W' ⟨he, hw⟩ => ⟨he, by subst hw; exact hide h.top⟩
theorem PI.addAll (h : PI B N b c w W L M) (n x : Int) (hx : U16 x) :
    Calls Try.prog 14 #[.pointer (some ⟨b, 0, none⟩), .int .i64 n, .int .u16 x] W fun e W' => e = .returned (.tuple #[]) ∧ Hid (PJ B b c w W' (allTo L n x 8) M) :=
  h.onQ fun F hq => addAll_some b n x L F W hx hq

/-- What goes first for n, and what is left behind it: of no nexus, and of one for whom nothing waits, nothing. -/
theorem PI.peeks (h : PI B N b c w W L L) (n : Int) : ∃ x ok,
    (Calls Try.prog 11 #[.pointer (some ⟨b, 0, none⟩), .int .i64 n] W fun e W' => e = .returned (.tuple #[.int .u16 x, .bool ok]) ∧ Hid (PJ B b c w W' L L)) ∧
    ∀ W', PJ B b c w W' L L → Calls Try.prog 16 #[.pointer (some ⟨c, 0, none⟩), .int .i64 n, .bool false] W' fun e W' => e = .returned (.tuple #[.int .u16 x, .bool ok]) ∧ Hid (PJ B b c w W' L L) := by
  by_cases hn : 0 ≤ n ∧ n < 8 ∧ L n.toNat ≠ []
  · obtain ⟨h0, h8, hne⟩ := hn
    obtain ⟨F, G, hq, hr, _⟩ := id h
    have hpos : 0 < (L n.toNat).length := List.length_pos_iff.2 hne
    obtain ⟨f1, f2, f3⟩ := fi_lt (L n.toNat) (L n.toNat).length
    obtain ⟨i, hi⟩ : ∃ i : Nat, fi (L n.toNat) (L n.toNat).length = (i : Int) := ⟨(fi (L n.toNat) (L n.toNat).length).toNat, by have := f3 hpos; omega⟩
    refine ⟨gi (L n.toNat) i, true, (peek_some b n L F W h0 h8 hq hpos).mono fun e W' ⟨he, m, hw⟩ => ⟨?_, ?_⟩, fun W' h' => ?_⟩
    · rw [he, hi]; rfl
    · subst hw; exact hide (h.top.drewN m)
    · exact h'.onR fun G hr => rnext_some c n false L G W' h0 h8 hr i hi
  · refine ⟨0, false, ?_, fun W' h' => ?_⟩
    · by_cases ho : n < 0 ∨ 8 ≤ n
      · exact (peek_out _ n W (.inr ho)).mono fun e W' ⟨he, hw⟩ => ⟨he, by subst hw; exact hide h.top⟩
      · obtain ⟨F, G, hq, hr, _⟩ := id h
        exact (peek_empty b n L F W (by omega) (by omega) hq (by
          by_cases e : L n.toNat = []
          · exact e
          · exact absurd ⟨by omega, by omega, e⟩ hn)).mono fun e W' ⟨he, m, hw⟩ => ⟨he, by subst hw; exact hide (h.top.drewN m)⟩
    · obtain ⟨F, G, hq, hr, _⟩ := id h'
      exact (rnext_none c n false L G W' hr (by
        by_cases ho : n < 0 ∨ 8 ≤ n
        · rcases ho with ho | ho
          · exact .inl ho
          · exact .inr (.inl ho)
        · right; right
          by_cases e : L n.toNat = []
          · exact e
          · exact absurd ⟨by omega, by omega, e⟩ hn)).mono fun e W' ⟨he, hw⟩ => ⟨he, by subst hw; exact hide h'⟩
theorem PI.nexts (h : PI B N b c w W L L) (n : Int) : ∃ x ok L',
    (Calls Try.prog 12 #[.pointer (some ⟨b, 0, none⟩), .int .i64 n] W fun e W' => e = .returned (.tuple #[.int .u16 x, .bool ok]) ∧ Hid (PJ B b c w W' L' L)) ∧
    ∀ W', PJ B b c w W' L' L → Calls Try.prog 16 #[.pointer (some ⟨c, 0, none⟩), .int .i64 n, .bool true] W' fun e W' => e = .returned (.tuple #[.int .u16 x, .bool ok]) ∧ Hid (PJ B b c w W' L' L') := by
  by_cases hn : 0 ≤ n ∧ n < 8 ∧ L n.toNat ≠ []
  · obtain ⟨h0, h8, hne⟩ := hn
    have hpos : 0 < (L n.toNat).length := List.length_pos_iff.2 hne
    obtain ⟨f1, f2, f3⟩ := fi_lt (L n.toNat) (L n.toNat).length
    obtain ⟨i, hi⟩ : ∃ i : Nat, fi (L n.toNat) (L n.toNat).length = (i : Int) := ⟨(fi (L n.toNat) (L n.toNat).length).toNat, by have := f3 hpos; omega⟩
    refine ⟨gi (L n.toNat) i, true, put L n.toNat ((L n.toNat).take i ++ (L n.toNat).drop (i + 1)), h.onQ fun F hq => next_some b n L F W h0 h8 hq i hi, fun W' h' => ?_⟩
    exact h'.onR fun G hr => (rnext_some c n true L G W' h0 h8 hr i hi)
  · refine ⟨0, false, L, ?_, fun W' h' => ?_⟩
    · by_cases ho : n < 0 ∨ 8 ≤ n
      · exact (next_out _ n W (.inr ho)).mono fun e W' ⟨he, hw⟩ => ⟨he, by subst hw; exact hide h.top⟩
      · obtain ⟨F, G, hq, hr, _⟩ := id h
        exact (next_empty b n L F W (by omega) (by omega) hq (by
          by_cases e : L n.toNat = []
          · exact e
          · exact absurd ⟨by omega, by omega, e⟩ hn)).mono fun e W' ⟨he, m, hw⟩ => ⟨he, by subst hw; exact hide (h.top.drewN m)⟩
    · obtain ⟨F, G, hq, hr, _⟩ := id h'
      exact (rnext_none c n true L G W' hr (by
        by_cases ho : n < 0 ∨ 8 ≤ n
        · rcases ho with ho | ho
          · exact .inl ho
          · exact .inr (.inl ho)
        · right; right
          by_cases e : L n.toNat = []
          · exact e
          · exact absurd ⟨by omega, by omega, e⟩ hn)).mono fun e W' ⟨he, hw⟩ => ⟨he, by subst hw; exact hide h'⟩
end

set_option maxHeartbeats 400000 in
theorem clear_out (b : Nat) (n : Int) (w : World) (h : n < 0 ∨ 8 ≤ n) :
    Calls Try.prog 17 #[.pointer (some ⟨b, 0, none⟩), .int .i64 n] w fun e w' => e = .returned (.tuple #[]) ∧ w = w' := by
  have hin : Calls Try.prog 18 #[.pointer (some ⟨b, 0, none⟩), .int .i64 n] w fun e w' => e = .returned (.bool false) ∧ w = w' := by
    refine (in_some _ n w).mono fun e w' hh => ⟨hh.1.trans (ret_bool ?_), hh.2⟩
    simp
    omega
  clear h
  go_enter Try.func17, Try.ntmps17
  go_wp2_with (go_at_call 18; refine hin.mono ?_; rintro e w' ⟨rfl, rfl⟩)
  go_end0
  exact ⟨rfl, rfl⟩

section
variable {B N b c : Nat} {w W : World} {L M : Nat → List Int}
theorem PI.clear (h : PI B N b c w W L M) (n : Int) (h0 : 0 ≤ n) (h8 : n < 8) :
    Calls Try.prog 17 #[.pointer (some ⟨b, 0, none⟩), .int .i64 n] W fun e W' => e = .returned (.tuple #[]) ∧ Hid (PJ B b c w W' (put L n.toNat []) M) :=
  h.onQ fun F hq => (clear_some b n L F W h0 h8 hq).mono fun _ _ ⟨he, h1, h2⟩ => ⟨he, h1.mono fun _ hk => .inl hk, h2⟩
/-- The document's list is emptied by a store. -/
theorem PI.wiped (h : PI B N b c w W L M) (n : Int) (h0 : 0 ≤ n) (h8 : n < 8) :
    (∃ v, W.cell? ⟨c, n.toNat, none⟩ = some v) ∧ W.frozen? ⟨c, n.toNat, none⟩ = false ∧ PI B W.heap.size b c w (W.setCell ⟨c, n.toNat, none⟩ (.slice none 0 0)) L (put M n.toNat []) := by
  obtain ⟨F, G, hq, hr, hd, hF, hG, hb, hB, hN⟩ := h
  obtain ⟨A, cap, hc, hfz, -, -, -, -⟩ := hr.at_ n h0 h8
  refine ⟨⟨_, hc⟩, hfz, ?_⟩
  obtain ⟨h1, h2⟩ := hr.put n.toNat (by omega) (l := []) (v := .slice none 0 0) (by simp) (fun x hx => by cases hx) hc (World.grownBy.refl W _) (Row.nil _ _ _ _) (by simp [Value.ownBlock])
  have hsz : (W.setCell ⟨c, n.toNat, none⟩ (.slice none 0 0)).heap.size = W.heap.size := by simp [World.setCell]
  have hG2 : ∀ k, Plus G W (W.setCell ⟨c, n.toNat, none⟩ (.slice none 0 0)) k → G k := by
    rintro k (hk | ⟨hk, hk'⟩)
    · exact hk
    · omega
  exact ⟨F, G, hq.mod h2 fun k hk hg => hd k hk hg, h1.mono hG2, hd, fun k hk => ⟨(hF k hk).1, Nat.lt_of_lt_of_le (hF k hk).2 hN⟩, fun k hk => ⟨(hG k hk).1, Nat.lt_of_lt_of_le (hG k hk).2 hN⟩,
    hb.trans (h2.below (Nat.le_trans hB hN) fun k hk => (hG k hk).1), Nat.le_trans hB hN, by rw [hsz]; exact Nat.le_refl _⟩
end

section
variable {B N b c : Nat} {w W : World} {L M : Nat → List Int}
theorem PI.radd_step {n x : Int} {j : Nat} (h : PI B N b c w W L (allTo M n x j)) (hj : j < 8) (hne : ¬ (j : Int) = n) (hx : U16 x) :
    Calls Try.prog 15 #[.pointer (some ⟨c, 0, none⟩), .int .i64 (j : Int), .int .u16 x] W fun e W' => e = .returned (.tuple #[]) ∧ Hid (PJ B b c w W' L (allTo M n x (j + 1))) := by
  have ha := h.radd (j : Int) x hx
  have e : addN (allTo M n x j) (j : Int) x = allTo M n x (j + 1) := by
    rw [addN, if_pos ⟨by omega, by omega⟩, Int.toNat_natCast]
    funext i
    exact allTo_add M n x j hne i
  rwa [e] at ha
theorem PI.skip_step {n x : Int} {j : Nat} (h : PI B N b c w W L (allTo M n x j)) (hne : (j : Int) = n) : PI B N b c w W L (allTo M n x (j + 1)) := by
  have e : allTo M n x j = allTo M n x (j + 1) := funext fun i => allTo_skip M n x j hne i
  rwa [e] at h
theorem allTo_none (L : Nat → List Int) (n x : Int) : allTo L n x 0 = L := by
  funext i
  simp [allTo]

/-- What List makes, and the document's own row beside it. -/
theorem PI.lists (h : PI B N b c w W L L) (n : Int) (h0 : 0 ≤ n) (h8 : n < 8) : ∃ A2 cap2 len, len = (L n.toNat).length ∧ len ≤ 8 ∧
    Calls Try.prog 10 #[.pointer (some ⟨b, 0, none⟩), .int .i64 n] W fun e W' => ∃ A cap, e = .returned (.slice A len cap) ∧ Hid (PI B W.heap.size b c w W' L L) ∧
      W'.cell? ⟨c, n.toNat, none⟩ = some (.slice A2 len cap2) ∧ Hid (Row W' 27 1 (ic .u16) (.slice A len cap) (L n.toNat)) ∧ Hid (Rd W' 1 (ic .u16) A2 len (L n.toNat)) ∧
      Hid (∀ k, (Value.slice A len cap).ownBlock = some k → W.heap.size ≤ k) ∧ Hid (∀ ad, A2 = some ad → ad.block < W.heap.size) := by
  obtain ⟨F, G, hq, hr, _⟩ := id h
  obtain ⟨A2, cap2, hc, -, hl8, -, hrow, -⟩ := hr.at_ n h0 h8
  refine ⟨A2, cap2, _, rfl, hl8, (list_some b n L F W h0 h8 hq).mono fun e W' ⟨v, he, hv, hk, ho⟩ => ?_⟩
  obtain ⟨A, cap, rfl, -, -⟩ := hv.slice
  refine ⟨A, cap, he, hide (h.top.mod hk (by simp)), hk.cell hc (by simp), hide hv, hide ((hrow.rd (ic_len _) rfl).mod hk (by simp)), hide ho, hide fun ad e => ?_⟩
  subst e
  exact hrow.lt _ rfl
/-- The first q of l are struck out. -/
def struck (l : List Int) (q : Nat) : List Int := List.replicate q 0 ++ l.drop q
theorem struck_length (l : List Int) (q : Nat) (hq : q ≤ l.length) : (struck l q).length = l.length := by simp [struck]; omega
theorem struck_gi (l : List Int) (q : Nat) : gi (struck l q) q = gi l q := by
  unfold struck
  rw [gi_append_right _ _ _ (by simp)]
  simp [gi, List.getD_eq_getElem?_getD]
theorem struck_set (l : List Int) (q : Nat) (hq : q < l.length) : (struck l q).set q 0 = struck l (q + 1) := by
  unfold struck
  rw [List.set_append_right _ _ (by simp)]
  simp only [List.length_replicate, Nat.sub_self, List.drop_eq_getElem_cons hq, List.set_cons_zero, List.replicate_succ', List.append_assoc, List.cons_append, List.nil_append]
end
end Go.Proofs.Ytkkhnolokabbgaa
