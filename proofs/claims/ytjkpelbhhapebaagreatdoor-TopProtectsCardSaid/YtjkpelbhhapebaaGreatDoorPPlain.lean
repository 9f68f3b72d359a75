/-
  What the store's file holds behind writes, unmaps and crashes: each block is well. Plain. Condition: what is written is well where it is written.
-/
import Derived.Test.YtjkpelbhhapebaaGreatDoorCi
import Derived.Test.YtjkpelbhhapebaaGreatDoorPUn
import Derived.Test.YtjkpelbhhapebaaGreatDoorPUnm
namespace Go.Proofs.YtjkpelbhhapebaaGreatDoor
open Go.RowKit
open W (ap wrt crS crN apAll)
set_option maxRecDepth 100000
theorem giz (l : List Int) (i : Nat) (h : l.length ≤ i) : gi l i = 0 := by
  simp [gi, List.getD_eq_getElem?_getD, List.getElem?_eq_none h]
theorem gi_opt (l : List Int) (i : Nat) : gi l i = (l[i]?).getD 0 := by
  simp [gi, List.getD_eq_getElem?_getD]
theorem gi_drop (l : List Int) (a i : Nat) : gi (l.drop a) i = gi l (a + i) := by
  rw [gi_opt, gi_opt, List.getElem?_drop]
theorem gi_take (l : List Int) (a i : Nat) (h : i < a) : gi (l.take a) i = gi l i := by
  rw [gi_opt, gi_opt, List.getElem?_take, if_pos h]
theorem gi_pad (l : List Int) (n i : Nat) : gi (l ++ List.replicate n 0) i = gi l i := by
  rw [gi_opt, gi_opt]
  by_cases h : i < l.length
  · rw [List.getElem?_append_left h]
  · rw [List.getElem?_append_right (by omega), List.getElem?_replicate, List.getElem?_eq_none (show l.length ≤ i by omega)]
    split <;> rfl
/-- A block that lies where nothing, or no record, begins is empty. -/
theorem blk_empty (f : List Int) (i : Nat) (h : gi f (i * 25) ≠ 1) : blkAt f i = emptyB := by
  unfold blkAt decB
  rw [if_pos (.inr (by rw [gi_take _ _ _ (by omega), gi_drop]; simpa using h))]
/-- A file whose blocks are all well. -/
def FW (prot : Int) (f : List Int) : Prop := Bytes f ∧ (∀ i, f.length < i * 25 + 25 → gi f (i * 25) ≠ 1) ∧ ∀ i : Nat, OkBl (blkAt f i) ∧ WellAt prot i (blkAt f i)
theorem FW.nil (prot : Int) : FW prot [] := ⟨fun x hx => (by cases hx), fun i _ => by rw [giz _ _ (by simp)]; decide, fun i => by
  rw [blk_empty _ _ (by rw [giz _ _ (by simp)]; decide)]
  exact ⟨empty_ok, empty_well _ _⟩⟩
theorem FW.pad {prot : Int} {f : List Int} (h : FW prot f) (n : Nat) : FW prot (f ++ List.replicate n 0) := by
  obtain ⟨h1, h2, h3⟩ := h
  refine ⟨Bytes.append h1 fun x hx => by rw [List.eq_of_mem_replicate hx]; decide, fun i hi => ?_, fun i => ?_⟩
  · rw [gi_pad]
    exact h2 i (by simp at hi; omega)
  · by_cases hi : i * 25 + 25 ≤ f.length
    · have e : blkAt (f ++ List.replicate n 0) i = blkAt f i := by
        unfold blkAt
        rw [List.drop_append_of_le_length (by omega), List.take_append_of_le_length (by simp; omega)]
      rw [e]
      exact h3 i
    · rw [blk_empty _ _ (by rw [gi_pad]; exact h2 i (by omega))]
      exact ⟨empty_ok, empty_well _ _⟩
/-- A record over another. -/
theorem put_get (P l : List Int) (a k : Nat) (h : a + l.length ≤ P.length) : (P.take a ++ (l ++ P.drop (a + l.length)))[k]? = if k < a then P[k]? else if k < a + l.length then l[k - a]? else P[k]? := by
  have ht : (P.take a).length = a := by simp; omega
  by_cases h1 : k < a
  · rw [if_pos h1, List.getElem?_append_left (by omega), List.getElem?_take, if_pos h1]
  · rw [if_neg h1, List.getElem?_append_right (by omega), ht]
    by_cases h2 : k < a + l.length
    · rw [if_pos h2, List.getElem?_append_left (by omega)]
    · rw [if_neg h2, List.getElem?_append_right (by omega), List.getElem?_drop]
      congr 1
      omega
/-- A record, or the mark that there is none. -/
def RecAt (prot : Int) (lba : Nat) (l : List Int) : Prop := l = [0] ∨ ∃ b, l = rec b ∧ OkBl b ∧ WellAt prot lba b
theorem RecAt.len {prot : Int} {lba : Nat} {l : List Int} (h : RecAt prot lba l) : 1 ≤ l.length ∧ l.length ≤ 25 := by
  rcases h with rfl | ⟨b, rfl, hb, -⟩
  · decide
  · rw [rec_len b hb]
    decide
theorem RecAt.bytes {prot : Int} {lba : Nat} {l : List Int} (h : RecAt prot lba l) : Bytes l := by
  rcases h with rfl | ⟨b, rfl, hb, -⟩
  · intro x hx
    simp only [List.mem_cons, List.not_mem_nil, or_false] at hx
    subst hx
    decide
  · exact rec_bytes b hb
theorem FW.put {prot : Int} {P : List Int} (h : FW prot P) (lba : Nat) (l : List Int) (hl : RecAt prot lba l) (hP : lba * 25 + l.length ≤ P.length) : FW prot (P.take (lba * 25) ++ (l ++ P.drop (lba * 25 + l.length))) := by
  obtain ⟨h1, h2, h3⟩ := h
  have hll := hl.len
  have hg := fun k => put_get P l (lba * 25) k hP
  have hlen : (P.take (lba * 25) ++ (l ++ P.drop (lba * 25 + l.length))).length = P.length := by simp; omega
  have hby : Bytes (P.take (lba * 25) ++ (l ++ P.drop (lba * 25 + l.length))) := Bytes.append (h1.take _) (Bytes.append hl.bytes (h1.drop _))
  generalize P.take (lba * 25) ++ (l ++ P.drop (lba * 25 + l.length)) = Q at *
  have hsame : ∀ i, i ≠ lba → ∀ j, j < 25 → Q[i * 25 + j]? = P[i * 25 + j]? := fun i hi j hj => by
    rw [hg]
    by_cases h4 : i < lba
    · rw [if_pos (by omega)]
    · rw [if_neg (by omega), if_neg (by omega)]
  have hat : gi Q (lba * 25) = gi l 0 := by
    rw [gi_opt, gi_opt, hg, if_neg (by omega), if_pos (by omega), Nat.sub_self]
  refine ⟨hby, fun i hi => ?_, fun i => ?_⟩
  · by_cases e : i = lba
    · subst e
      rw [hat]
      rcases hl with rfl | ⟨b, rfl, hb, -⟩
      · decide
      · rw [rec_len b hb] at hP
        omega
    · rw [gi_opt]
      have := hsame i e 0 (by omega)
      rw [Nat.add_zero] at this
      rw [this, ← gi_opt]
      exact h2 i (by omega)
  · by_cases e : i = lba
    · subst e
      rcases hl with rfl | ⟨b, rfl, hb, hw⟩
      · rw [blk_empty _ _ (by rw [hat]; decide)]
        exact ⟨empty_ok, empty_well _ _⟩
      · have hr := rec_len b hb
        rw [hr] at hP
        have : blkAt Q i = b := by
          unfold blkAt
          have e : (Q.drop (i * 25)).take 25 = rec b := by
            apply List.ext_getElem?
            intro j
            rw [List.getElem?_take, List.getElem?_drop, hg]
            by_cases hj : j < 25
            · rw [if_pos hj, if_neg (by omega), if_pos (by omega), Nat.add_sub_cancel_left]
            · rw [if_neg hj, List.getElem?_eq_none (by omega)]
          rw [e]
          exact dec_rec b hb
        rw [this]
        exact ⟨hb, hw⟩
    · have : blkAt Q i = blkAt P i := by
        unfold blkAt
        congr 1
        apply List.ext_getElem?
        intro j
        rw [List.getElem?_take, List.getElem?_take, List.getElem?_drop, List.getElem?_drop]
        by_cases hj : j < 25
        · rw [if_pos hj, if_pos hj, hsame i e j hj]
        · rw [if_neg hj, if_neg hj]
      rw [this]
      exact h3 i
theorem FW.wrt {prot : Int} {o : Option (List Int)} (h : FW prot (o.getD [])) (lba : Nat) (l : List Int) (hl : RecAt prot lba l) : FW prot (wrt o (lba * 25) l) := by
  unfold YtjkpelbhhapebaaGreatDoor.W.wrt
  exact (h.pad _).put lba l hl (by simp; omega)
/-- A change of the store's file. -/
def WlC (prot : Int) (c : W.Cg) : Prop := ∃ lba l, c = wch sd (lba * 25) l ∧ RecAt prot lba l
/-- Files: the store's is well, nothing is in the slots. -/
def FF (prot : Int) (f : ByteArray → Option (List Int)) : Prop := FW prot ((f sd).getD []) ∧ f (spn 0) = none ∧ f (spn 1) = none
theorem FF.none_ (prot : Int) : FF prot (fun _ => none) := ⟨FW.nil _, rfl, rfl⟩
theorem sp_ne : spn 0 ≠ sd ∧ spn 1 ≠ sd := by
  constructor <;> intro e <;> exact absurd (congrArg ByteArray.size e) (by decide)
theorem FF.ap {prot : Int} {f : ByteArray → Option (List Int)} (h : FF prot f) {c : W.Cg} (hc : WlC prot c) : FF prot (ap f c c.p.length) := by
  obtain ⟨h1, h2, h3⟩ := h
  obtain ⟨lba, l, rfl, hl⟩ := hc
  refine ⟨?_, ?_, ?_⟩
  · have e : (W.ap f (wch sd (lba * 25) l) (wch sd (lba * 25) l).p.length sd).getD [] = W.wrt (f sd) (lba * 25) l := by
      simp [W.ap, wch, W.upd]
    rw [e]
    exact h1.wrt lba l hl
  · have e : W.ap f (wch sd (lba * 25) l) (wch sd (lba * 25) l).p.length (spn 0) = f (spn 0) := by
      simp [W.ap, wch, W.upd, sp_ne.1]
    rw [e]
    exact h2
  · have e : W.ap f (wch sd (lba * 25) l) (wch sd (lba * 25) l).p.length (spn 1) = f (spn 1) := by
      simp [W.ap, wch, W.upd, sp_ne.2]
    rw [e]
    exact h3
/-- The world: what is seen, what is durable and what waits is well. -/
def WI (prot : Int) (x : Wx) : Prop := FF prot x.seen ∧ FF prot x.dur ∧ ∀ c ∈ x.waits, WlC prot c
theorem WI.new (prot : Int) : WI prot wx0 := ⟨FF.none_ _, FF.none_ _, fun c hc => (by cases hc)⟩
section
variable {prot : Int} {x : Wx}
theorem WI.wrote (h : WI prot x) (lba : Nat) (l : List Int) (hl : RecAt prot lba l) : WI prot (x.wrote sd (lba * 25) l) := by
  obtain ⟨h1, h2, h3⟩ := h
  refine ⟨h1.ap ⟨lba, l, rfl, hl⟩, h2, fun c hc => ?_⟩
  simp only [Wx.wrote, List.mem_append, List.mem_cons, List.not_mem_nil, or_false] at hc
  rcases hc with hc | rfl
  · exact h3 c hc
  · exact ⟨lba, l, rfl, hl⟩
theorem FF.all {f : ByteArray → Option (List Int)} (h : FF prot f) : ∀ (l : List W.Cg), (∀ c ∈ l, WlC prot c) → FF prot (apAll f l) := by
  intro l
  induction l generalizing f with
  | nil => intro _; exact h
  | cons c l ih =>
    intro hl
    exact ih (h.ap (hl c (by simp))) fun d hd => hl d (by simp [hd])
theorem WI.synced (h : WI prot x) : WI prot x.synced := ⟨h.1, h.2.1.all _ h.2.2, fun c hc => (by cases hc)⟩
theorem FF.crN {f : ByteArray → Option (List Int)} (h : FF prot f) (l : List W.Cg) (hl : ∀ c ∈ l, WlC prot c) (keep : Nat) : ∀ i, i ≤ l.length → FF prot (crN f l keep 0 i)
  | 0, _ => h
  | i + 1, hi => by
    have ih := FF.crN h l hl keep i (by omega)
    have hc : WlC prot (gi l i) := hl _ (by rw [gi_eq l i (by omega)]; exact List.getElem_mem _)
    unfold YtjkpelbhhapebaaGreatDoor.W.crN YtjkpelbhhapebaaGreatDoor.W.crS
    split
    · exact ih.ap hc
    · rw [if_neg (by omega)]
      exact ih
theorem WI.crashed (h : WI prot x) (keep : Nat) : WI prot (x.crashed keep) :=
  ⟨h.2.1.crN _ h.2.2 keep _ (Nat.le_refl _), h.2.1.crN _ h.2.2 keep _ (Nat.le_refl _), fun c hc => (by cases hc)⟩
theorem WI.wroteN (h : WI prot x) (lba : Nat) (l : List Bl) : ∀ k, k ≤ l.length → (∀ i, i < k → OkBl (gi l i) ∧ WellAt prot ((lba : Int) + i) (gi l i)) → WI prot (wroteN x sd lba l k)
  | 0, _, _ => h
  | k + 1, hk, hb => by
    have q := hb k (by omega)
    exact (WI.wroteN h lba l k (by omega) fun i hi => hb i (by omega)).wrote (lba + k) _ (.inr ⟨gi l k, rfl, q.1, by push_cast; exact q.2⟩)
theorem WI.laid (h : WI prot x) (lba : Nat) (l : List Bl) (hb : ∀ i, i < l.length → OkBl (gi l i) ∧ WellAt prot ((lba : Int) + i) (gi l i)) (du : Bool) : WI prot (laidX x sd lba l du) := by
  unfold laidX
  split
  · exact (h.wroteN lba l _ (Nat.le_refl _) hb).synced
  · exact h.wroteN lba l _ (Nat.le_refl _) hb
theorem WI.unm (h : WI prot x) (lba : Nat) : ∀ k, WI prot (unmN x sd lba k)
  | 0 => h
  | k + 1 => (WI.unm h lba k).wrote (lba + k) [0] (.inl rfl)
theorem WI.file (h : WI prot x) : Bytes (x.file sd) ∧ ∀ i, i < 32 → OkBl (blkAt (x.file sd) i) ∧ WellAt prot i (blkAt (x.file sd) i) := ⟨h.1.1.1, fun i _ => h.1.1.2.2 i⟩
end
/-- Blocks over the wire and back, with their tuples. -/
theorem tup_pack (b : Bl) (hb : OkBl b) (r : List Int) : tupB (packB true b ++ r) = b := by
  obtain ⟨d, g, a, rr⟩ := b
  obtain ⟨h1, -, ⟨g0, g1⟩, ⟨a0, a1⟩, ⟨r0, r1⟩⟩ := hb
  simp only at h1 g0 g1 a0 a1 r0 r1
  have e : ∀ k, gi (packB true ⟨d, g, a, rr⟩ ++ r) (16 + k) = gi ([g / 256, g % 256, a / 256, a % 256, rr / 16777216, rr / 65536 % 256, rr / 256 % 256, rr % 256] ++ r) k := by
    intro k
    rw [gi_opt, gi_opt]
    simp only [packB, if_true]
    rw [List.append_assoc, List.getElem?_append_right (show d.length ≤ 16 + k by omega), h1, Nat.add_sub_cancel_left]
  have et : (packB true ⟨d, g, a, rr⟩ ++ r).take 16 = d := by
    rw [packB, List.append_assoc, List.take_left' h1]
  have e0 := e 0; have e1 := e 1; have e2 := e 2; have e3 := e 3; have e4 := e 4; have e5 := e 5; have e6 := e 6; have e7 := e 7
  simp only [Nat.add_zero, Nat.reduceAdd, List.cons_append, gi, List.getD_cons_zero, List.getD_cons_succ] at e0 e1 e2 e3 e4 e5 e6 e7
  unfold tupB
  rw [et]
  simp only [gi]
  rw [e0, e1, e2, e3, e4, e5, e6, e7]
  congr 1 <;> omega
theorem packB_len (b : Bl) (hb : OkBl b) : (packB true b).length = 24 := by
  simp [packB, hb.1]
theorem packT_len (l : List Bl) (hb : ∀ b ∈ l, OkBl b) : (packL true l).length = l.length * 24 := by
  induction l with
  | nil => rfl
  | cons b l ih =>
    have h1 := packB_len b (hb b (by simp))
    have h2 := ih fun c hc => hb c (by simp [hc])
    simp only [packL, List.flatMap_cons, List.length_append, List.length_cons] at h2 ⊢
    omega
theorem unT_pack (l : List Bl) (hb : ∀ b ∈ l, OkBl b) (i : Nat) (hi : i < l.length) : gi (unT (packL true l) l.length) i = gi l i := by
  have key : ∀ (l : List Bl), (∀ b ∈ l, OkBl b) → ∀ i, i < l.length → tupB ((packL true l).drop (i * 24)) = gi l i := by
    intro l
    induction l with
    | nil => intro _ i hi; simp at hi
    | cons b l ih =>
      intro hb i hi
      have h1 := packB_len b (hb b (by simp))
      cases i with
      | zero =>
        simp only [packL, List.flatMap_cons, Nat.zero_mul, List.drop_zero]
        rw [tup_pack b (hb b (by simp))]
        rfl
      | succ i =>
        have := ih (fun c hc => hb c (by simp [hc])) i (by simpa using hi)
        have e : (packL true (b :: l)).drop ((i + 1) * 24) = (packL true l).drop (i * 24) := by
          simp only [packL, List.flatMap_cons]
          rw [show (i + 1) * 24 = (packB true b).length + i * 24 from by omega, List.drop_append, List.drop_eq_nil_of_le (by omega), List.nil_append]
          congr 1
          omega
        rw [e, this]
        rfl
  rw [gi_eq _ i (by rw [unT_len]; exact hi)]
  simp only [unT, List.getElem_map, List.getElem_range]
  exact key l hb i hi
theorem packT_bytes (l : List Bl) (hb : ∀ b ∈ l, OkBl b) : Bytes (packL true l) := by
  intro x hx
  simp only [packL, List.mem_flatMap] at hx
  obtain ⟨b, hb', hx⟩ := hx
  obtain ⟨-, h2, ⟨g0, g1⟩, ⟨a0, a1⟩, ⟨r0, r1⟩⟩ := hb b hb'
  simp only [packB, if_true, List.mem_append, List.mem_cons, List.not_mem_nil, or_false] at hx
  rcases hx with hx | rfl | rfl | rfl | rfl | rfl | rfl | rfl | rfl
  · exact h2 x hx
  all_goals omega
theorem blks_ok {prot : Int} {x : Wx} (h : WI prot x) (lba n : Nat) (hl : lba + n ≤ 32) : ∀ i, i < n → OkBl (gi (blks (x.file sd) lba n) i) ∧ WellAt prot ((lba : Int) + i) (gi (blks (x.file sd) lba n) i) := fun i hi => by
  rw [blks_get _ _ _ _ hi]
  have := h.file.2 (lba + i) (by omega)
  push_cast at this
  exact this
theorem blks_all {prot : Int} {x : Wx} (h : WI prot x) (lba n : Nat) (hl : lba + n ≤ 32) : ∀ b ∈ blks (x.file sd) lba n, OkBl b := fun b hb => by
  obtain ⟨i, hi, rfl⟩ := List.getElem_of_mem hb
  have := (blks_ok h lba n hl i (by rwa [blks_len] at hi)).1
  rwa [gi_eq _ i hi] at this
end Go.Proofs.YtjkpelbhhapebaaGreatDoor
