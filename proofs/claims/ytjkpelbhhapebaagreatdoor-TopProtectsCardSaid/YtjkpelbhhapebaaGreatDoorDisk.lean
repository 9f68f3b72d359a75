/-
  What the store's file holds behind writes, plain. Condition: the file is made of whole records.
-/
import Derived.Test.YtjkpelbhhapebaaGreatDoorSWrite
namespace Go.Proofs.YtjkpelbhhapebaaGreatDoor
open Go.RowKit
set_option maxRecDepth 100000
theorem val2 (x : Int) : val [x / 256, x % 256] = x := by
  simp only [val, List.foldl_cons, List.foldl_nil]
  omega
theorem val4 (x : Int) : val [x / 16777216, x / 65536 % 256, x / 256 % 256, x % 256] = x := by
  simp only [val, List.foldl_cons, List.foldl_nil]
  omega
theorem rec_bytes (b : Bl) (hb : OkBl b) : Bytes (rec b) := by
  obtain ⟨-, h2, ⟨g0, g1⟩, ⟨a0, a1⟩, ⟨r0, r1⟩⟩ := hb
  intro x hx
  simp only [rec, List.mem_cons, List.mem_append, List.not_mem_nil, or_false] at hx
  rcases hx with rfl | ((hx | rfl | rfl | rfl | rfl) | rfl | rfl | rfl | rfl)
  · omega
  · exact h2 x hx
  all_goals omega
theorem dec_rec (b : Bl) (hb : OkBl b) : decB (rec b) = b := by
  obtain ⟨d, g, a, r⟩ := b
  obtain ⟨h1, -, ⟨g0, g1⟩, ⟨a0, a1⟩, ⟨r0, r1⟩⟩ := hb
  simp only at h1 g0 g1 a0 a1 r0 r1
  have hl : (rec ⟨d, g, a, r⟩).length = 25 := by simp [rec, h1]
  unfold decB
  rw [if_neg (by rw [hl]; simp [rec, gi])]
  have e17 : ∀ k, (rec ⟨d, g, a, r⟩).drop (17 + k) = ([g / 256, g % 256, a / 256, a % 256, r / 16777216, r / 65536 % 256, r / 256 % 256, r % 256] : List Int).drop k := by
    intro k
    rw [← List.drop_drop]
    congr 1
    simp only [rec, List.append_assoc, List.cons_append, List.nil_append]
    rw [show 17 = 16 + 1 from rfl, List.drop_succ_cons, List.drop_left' h1]
  congr 1
  · simp only [rec, List.drop_succ_cons, List.drop_zero, List.append_assoc]
    rw [List.take_left' h1]
  · rw [show 17 = 17 + 0 from rfl, e17]
    exact val2 g
  · rw [show 19 = 17 + 2 from rfl, e17]
    exact val2 a
  · rw [show 21 = 17 + 4 from rfl, e17]
    exact val4 r
theorem gi_rep (n i : Nat) : gi (List.replicate n (0 : Int)) i = 0 := by
  by_cases h : i < n
  · rw [gi_eq _ i (by simpa using h)]
    simp
  · simp [gi, List.getD_eq_getElem?_getD, List.getElem?_eq_none (show (List.replicate n (0 : Int)).length ≤ i by simp; omega)]
theorem dec_zero (n : Nat) : decB (List.replicate n 0) = emptyB := by
  unfold decB
  rw [if_pos (.inr (by rw [gi_rep]; decide))]
theorem blk_zeros (f : List Int) (n i : Nat) (hf : f.length % 25 = 0) : blkAt (f ++ List.replicate n 0) i = blkAt f i := by
  unfold blkAt
  by_cases h : i * 25 + 25 ≤ f.length
  · rw [List.drop_append_of_le_length (by omega), List.take_append_of_le_length (by simp; omega)]
  · have h2 : f.length ≤ i * 25 := by omega
    rw [List.drop_eq_nil_of_le h2, List.drop_append, List.drop_eq_nil_of_le h2, List.nil_append, List.drop_replicate, List.take_replicate, dec_zero]
    exact (dec_zero 0).symm
open W (wrt ap)
theorem blk_wrt (o : Option (List Int)) (lba i : Nat) (b : Bl) (hb : OkBl b) (ho : (o.getD []).length % 25 = 0) : blkAt (wrt o (lba * 25) (rec b)) i = if i = lba then b else blkAt (o.getD []) i := by
  have hl : (rec b).length = 25 := rec_len b hb
  unfold wrt
  rw [hl]
  generalize hP : o.getD [] ++ List.replicate (lba * 25 + 25 - (o.getD []).length) 0 = P
  have hPl : lba * 25 + 25 ≤ P.length := by rw [← hP]; simp; omega
  have hPb : blkAt P i = blkAt (o.getD []) i := by rw [← hP]; exact blk_zeros _ _ _ ho
  rw [← hPb]
  have ht : (P.take (lba * 25)).length = lba * 25 := by simp; omega
  unfold blkAt
  by_cases h1 : i < lba
  · rw [if_neg (by omega)]
    congr 1
    rw [List.drop_append_of_le_length (by omega), List.take_append_of_le_length (by simp; omega), List.drop_take, List.take_take]
    congr 1
    omega
  · by_cases h2 : i = lba
    · subst h2
      rw [if_pos rfl, List.drop_left' ht, List.take_left' hl]
      exact dec_rec b hb
    · rw [if_neg h2]
      congr 2
      rw [List.drop_append, List.drop_eq_nil_of_le (by omega), List.nil_append, ht, List.drop_append, List.drop_eq_nil_of_le (by omega), List.nil_append, hl, List.drop_drop]
      congr 1
      omega
/-- The blocks that a file holds. -/
def SX (f : ByteArray → Option (List Int)) (s : ByteArray) (D : Nat → Bl) : Prop := Bytes ((f s).getD []) ∧ ((f s).getD []).length % 25 = 0 ∧ ∀ i, blkAt ((f s).getD []) i = D i
def setD (D : Nat → Bl) (lba : Nat) (b : Bl) : Nat → Bl := fun i => if i = lba then b else D i
theorem wrt_bytes (o : Option (List Int)) (off : Nat) (p : List Int) (h : Bytes (o.getD [])) (hp : Bytes p) : Bytes (wrt o off p) := by
  have hr : ∀ n, Bytes (List.replicate n 0) := fun n x hx => by
    rw [List.eq_of_mem_replicate hx]
    omega
  unfold wrt
  exact Bytes.append (Bytes.take (Bytes.append h (hr _)) _) (Bytes.append hp (Bytes.drop (Bytes.append h (hr _)) _))
theorem SX.none_ (s : ByteArray) : SX (fun _ => none) s (fun _ => emptyB) := ⟨by intro x hx; simp at hx, rfl, fun i => by simp [blkAt]; exact dec_zero 0⟩
theorem SX.write {f : ByteArray → Option (List Int)} {s : ByteArray} {D : Nat → Bl} (h : SX f s D) (lba : Nat) (b : Bl) (hb : OkBl b) : SX (ap f (wch s (lba * 25) (rec b)) (rec b).length) s (setD D lba b) := by
  obtain ⟨h1, h2, h3⟩ := h
  have hl : (rec b).length = 25 := rec_len b hb
  have e : (ap f (wch s (lba * 25) (rec b)) (rec b).length s).getD [] = wrt (f s) (lba * 25) (rec b) := by
    simp [ap, wch, W.upd]
  refine ⟨?_, ?_, fun i => ?_⟩
  · rw [e]
    exact wrt_bytes _ _ _ h1 (rec_bytes b hb)
  · rw [e, W.wrt_len, hl]
    omega
  · rw [e, blk_wrt _ _ _ _ hb h2, h3]
    rfl
theorem SX.other {f : ByteArray → Option (List Int)} {s t : ByteArray} {D : Nat → Bl} (h : SX f s D) (ht : t ≠ s) (off m : Nat) (l : List Int) : SX (ap f (wch t off l) m) s D := by
  have e : ap f (wch t off l) m s = f s := by
    simp [ap, wch, W.upd, Ne.symm ht]
  unfold SX
  rw [e]
  exact h
/-- The blocks behind k writes. -/
def layD (D : Nat → Bl) (lba : Nat) (l : List Bl) : Nat → Nat → Bl
  | 0 => D
  | k + 1 => setD (layD D lba l k) (lba + k) (gi l k)
theorem layD_at (D : Nat → Bl) (lba : Nat) (l : List Bl) (i : Nat) : ∀ k, layD D lba l k i = if lba ≤ i ∧ i < lba + k then gi l (i - lba) else D i
  | 0 => by rw [if_neg (by omega)]; rfl
  | k + 1 => by
    have ih := layD_at D lba l i k
    unfold layD setD
    by_cases h : i = lba + k
    · subst h
      rw [if_pos rfl, if_pos ⟨by omega, by omega⟩, Nat.add_sub_cancel_left]
    · rw [if_neg h, ih]
      by_cases h2 : lba ≤ i ∧ i < lba + k
      · rw [if_pos h2, if_pos ⟨h2.1, by omega⟩]
      · rw [if_neg h2, if_neg (by omega)]
theorem SX.wroteN {x : Wx} {s : ByteArray} {D : Nat → Bl} (h : SX x.seen s D) (lba : Nat) (l : List Bl) (hb : ∀ b ∈ l, OkBl b) : ∀ k, k ≤ l.length → SX (wroteN x s lba l k).seen s (layD D lba l k)
  | 0, _ => h
  | k + 1, hk => (SX.wroteN h lba l hb k (by omega)).write (lba + k) (gi l k) (hb _ (by rw [gi_eq l k (by omega)]; exact List.getElem_mem _))
theorem SX.laid {x : Wx} {s : ByteArray} {D : Nat → Bl} (h : SX x.seen s D) (lba : Nat) (l : List Bl) (hb : ∀ b ∈ l, OkBl b) (du : Bool) : SX (laidX x s lba l du).seen s (layD D lba l l.length) := by
  unfold laidX
  split
  · exact h.wroteN lba l hb _ (Nat.le_refl _)
  · exact h.wroteN lba l hb _ (Nat.le_refl _)
theorem Wx.file_eq (x : Wx) (s : ByteArray) : x.file s = (x.seen s).getD [] := rfl
end Go.Proofs.YtjkpelbhhapebaaGreatDoor
