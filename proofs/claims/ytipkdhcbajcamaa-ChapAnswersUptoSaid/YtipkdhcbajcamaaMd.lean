/-
  The sum's constants and its small functions, walked. Conditions: a step's number is below 64.
-/
import Derived.Test.YtipkdhcbajcamaaMem
import Derived.Laws.ShiftsVarLaws
namespace Go.Proofs.Ytipkdhcbajcamaa
open Go.RowKit

/-- The constants. -/
def kl : List Int := [3614090360, 3905402710, 606105819, 3250441966, 4118548399, 1200080426, 2821735955, 4249261313, 1770035416, 2336552879, 4294925233, 2304563134, 1804603682, 4254626195, 2792965006, 1236535329, 4129170786, 3225465664, 643717713, 3921069994, 3593408605, 38016083, 3634488961, 3889429448, 568446438, 3275163606, 4107603335, 1163531501, 2850285829, 4243563512, 1735328473, 2368359562, 4294588738, 2272392833, 1839030562, 4259657740, 2763975236, 1272893353, 4139469664, 3200236656, 681279174, 3936430074, 3572445317, 76029189, 3654602809, 3873151461, 530742520, 3299628645, 4096336452, 1126891415, 2878612391, 4237533241, 1700485571, 2399980690, 4293915773, 2240044497, 1873313359, 4264355552, 2734768916, 1309151649, 4149444226, 3174756917, 718787259, 3951481745]
/-- The turns. -/
def sl : List Int := [7, 12, 17, 22, 5, 9, 14, 20, 4, 11, 16, 23, 6, 10, 15, 21]
/-- By how many bits step i turns. -/
def sh (i : Nat) : Int := gi sl (4 * (i / 16) + i % 4)
theorem kl_len : kl.length = 64 := rfl
theorem sl_len : sl.length = 16 := rfl

theorem run_index_arr (w : World) (t e : TypeId) (n : Nat) (cs : Array Value) (i : Nat) (v : Value) (h : Try.prog.underlying t = some (.array n e)) (hi : i < n) (h1 : ∀ w, (part e cs (i * 1)).run Try.prog w = .ok v w) (hs : ∀ w, (sizeOf e).run Try.prog w = .ok 1 w) :
    (Instr.index t (.agg cs) (.int .i64 i)).run Try.prog w = .ok v w := by
  have h0 : (0 : Int) ≤ i ∧ (i : Int) < n := by omega
  simp only [Instr.index, asIntOf, Sem.run_bind, Sem.run_pure, Result.andThen_ok, run_underlying h, if_pos h0, hs, Int.toNat_natCast, h1]


theorem part_int (w : World) (cs : Array Value) (i : Nat) (k : IntKind) (x : Int) (e : TypeId) (he : Try.prog.underlying e = some (.int k)) (hx : cs[i]? = some (.int k x)) : (part e cs (i * 1)).run Try.prog w = .ok (.int k x) w := by
  simp [part, isAgg, Sem.run_bind, run_underlying he, hx]

def kv : Array Value := #[.int .u32 3614090360, .int .u32 3905402710, .int .u32 606105819, .int .u32 3250441966, .int .u32 4118548399, .int .u32 1200080426, .int .u32 2821735955, .int .u32 4249261313, .int .u32 1770035416, .int .u32 2336552879, .int .u32 4294925233, .int .u32 2304563134, .int .u32 1804603682, .int .u32 4254626195, .int .u32 2792965006, .int .u32 1236535329, .int .u32 4129170786, .int .u32 3225465664, .int .u32 643717713, .int .u32 3921069994, .int .u32 3593408605, .int .u32 38016083, .int .u32 3634488961, .int .u32 3889429448, .int .u32 568446438, .int .u32 3275163606, .int .u32 4107603335, .int .u32 1163531501, .int .u32 2850285829, .int .u32 4243563512, .int .u32 1735328473, .int .u32 2368359562, .int .u32 4294588738, .int .u32 2272392833, .int .u32 1839030562, .int .u32 4259657740, .int .u32 2763975236, .int .u32 1272893353, .int .u32 4139469664, .int .u32 3200236656, .int .u32 681279174, .int .u32 3936430074, .int .u32 3572445317, .int .u32 76029189, .int .u32 3654602809, .int .u32 3873151461, .int .u32 530742520, .int .u32 3299628645, .int .u32 4096336452, .int .u32 1126891415, .int .u32 2878612391, .int .u32 4237533241, .int .u32 1700485571, .int .u32 2399980690, .int .u32 4293915773, .int .u32 2240044497, .int .u32 1873313359, .int .u32 4264355552, .int .u32 2734768916, .int .u32 1309151649, .int .u32 4149444226, .int .u32 3174756917, .int .u32 718787259, .int .u32 3951481745]
theorem kv_get (i : Nat) (hi : i < 64) : kv[i]? = some (.int .u32 (gi kl i)) := by
  have e : kv = (kl.map (Value.int .u32)).toArray := rfl
  rw [e, gi_eq kl i hi]
  simp [kl_len, hi]
  rfl
def row4 (r : Nat) : Value := .agg #[.int .i64 (gi sl (4 * r)), .int .i64 (gi sl (4 * r + 1)), .int .i64 (gi sl (4 * r + 2)), .int .i64 (gi sl (4 * r + 3))]
def rv : Array Value := #[.int .i64 7, .int .i64 12, .int .i64 17, .int .i64 22, .int .i64 5, .int .i64 9, .int .i64 14, .int .i64 20, .int .i64 4, .int .i64 11, .int .i64 16, .int .i64 23, .int .i64 6, .int .i64 10, .int .i64 15, .int .i64 21]

section
variable {P : Program} {w : World} {ops : Array Oper} {rest : List Oper} {o : Oper} {a : Act} {Q : Exit → Act → World → Prop}
/-- An operation whose value is known. -/
theorem list_pure (hg : o.guard = none) (v : Value) (h : (execOp a.eval o).run P w = .ok (.value v) w) (hn : wpList P ops Q rest (a.put o.dst v) w) : wpList P ops Q (o :: rest) a w :=
  wpList_plain hg fun _ hK => by
    unfold Oper.wp
    rw [h]
    exact hK _ _ hn
end

set_option maxRecDepth 100000 in
theorem word_any (i : Nat) (w : World) (hi : i < 64) : Calls Try.prog 23 #[.int .i64 i] w fun e w' => e = .returned (.int .u32 (gi kl i)) ∧ w = w' := by
  have hx : ∀ w, (Instr.index 50 (.agg kv) (.int .i64 i)).run Try.prog w = .ok (.int .u32 (gi kl i)) w := fun w =>
    run_index_arr w 50 38 64 _ i _ Try.underlying50 hi (fun w => part_int w _ i .u32 _ 38 Try.underlying38 (kv_get i hi)) (fun w => by kernel_rfl)
  go_enter Try.func23, Try.ntmps23
  go_wp2_with (refine list_pure (o := ⟨some 3, _, _, _, _, _⟩) rfl (.agg kv) (by kernel_rfl) ?_)
  go_ret
  exact ⟨rfl, rfl⟩

theorem shift_any (i : Nat) (w : World) (hi : i < 64) : Calls Try.prog 24 #[.int .i64 i] w fun e w' => e = .returned (.int .i64 (sh i)) ∧ w = w' := by
  have hq : i / 16 < 4 := by omega
  have hr : i % 4 < 4 := by omega
  have hx : ∀ w, (Instr.index 52 (.agg rv) (.int .i64 (i / 16 : Nat))).run Try.prog w = .ok (row4 (i / 16)) w := fun w => by
    have h0 : (0 : Int) ≤ ((i / 16 : Nat) : Int) ∧ (((i / 16 : Nat) : Int)) < (4 : Nat) := by omega
    simp only [Instr.index, asIntOf, Sem.run_bind, Sem.run_pure, Result.andThen_ok, run_underlying Try.underlying52, if_pos h0, Int.toNat_natCast]
    generalize i / 16 = r at hq
    obtain rfl | rfl | rfl | rfl : r = 0 ∨ r = 1 ∨ r = 2 ∨ r = 3 := by omega
    all_goals rfl
  have hy : ∀ w, (Instr.index 51 (row4 (i / 16)) (.int .i64 (i % 4 : Nat))).run Try.prog w = .ok (.int .i64 (sh i)) w := fun w => by
    have h0 : (0 : Int) ≤ ((i % 4 : Nat) : Int) ∧ (((i % 4 : Nat) : Int)) < (4 : Nat) := by omega
    unfold sh
    simp only [Instr.index, asIntOf, Sem.run_bind, Sem.run_pure, Result.andThen_ok, row4, run_underlying Try.underlying51, if_pos h0, Int.toNat_natCast]
    generalize i / 16 = r at hq
    generalize i % 4 = q at hr
    obtain rfl | rfl | rfl | rfl : r = 0 ∨ r = 1 ∨ r = 2 ∨ r = 3 := by omega
    all_goals
      obtain rfl | rfl | rfl | rfl : q = 0 ∨ q = 1 ∨ q = 2 ∨ q = 3 := by omega
      all_goals rfl
  unfold rv at hx
  have e1 : ((i / 16 : Nat) : Int) = (i : Int) / 16 := by omega
  have e2 : ((i % 4 : Nat) : Int) = (i : Int) % 4 := by omega
  rw [e1] at hx
  rw [e2] at hy
  clear e1 e2
  generalize row4 (i / 16) = R at hx hy
  go_enter Try.func24, Try.ntmps24
  go_wp2
  go_ret
  exact ⟨rfl, rfl⟩

theorem and31 (s : Int) (h3 : 0 ≤ s) (h4 : s < 32) : bits .and .u64 s 31 = s := by
  rw [u64_and s 31 h3 (by omega) (by omega) (by omega), show (31 : Int).toNat = 31 from rfl, nat_mask5]
  omega
/-- Turned to the left. -/
def rl (x s : Int) : Int := bits .or .u32 (x * 2 ^ s.toNat % 4294967296) (x / 2 ^ (32 - s).toNat)
theorem rot_any (x s : Int) (w : World) (hx : 0 ≤ x ∧ x < 4294967296) (hs : 0 ≤ s ∧ s < 32) : Calls Try.prog 22 #[.int .u32 x, .int .i64 s] w fun e w' => e = .returned (.int .u32 (rl x s)) ∧ w = w' := by
  obtain ⟨h1, h2⟩ := hx
  obtain ⟨h3, h4⟩ := hs
  have hb := and31 s h3 h4
  go_enter Try.func22, Try.ntmps22
  go_wp2
  go_ret
  exact ⟨rfl, rfl⟩
theorem left_any (x s : Int) (w : World) (hx : 0 ≤ x ∧ x < 4294967296) (hs : 0 ≤ s ∧ s < 32) : Calls Try.prog 19 #[.int .u32 x, .int .i64 s] w fun e w' => e = .returned (.int .u32 (rl x s)) ∧ ∃ n, w' = w.drewN n := by
  obtain ⟨h1, h2⟩ := hx
  obtain ⟨h3, h4⟩ := hs
  go_enter Try.func19, Try.ntmps19
  go_wp2
  go_quiet (fail)
  go_wp2
  go_ret
  exact ⟨rfl, _, rfl⟩
theorem gi_mem {l : List Int} {i : Nat} (h : i < l.length) : gi l i ∈ l := by rw [gi_eq l i h]; exact List.getElem_mem h
/-- Word i of a block's bytes. -/
def wd (l : List Int) (i : Nat) : Int := gi l (4 * i) + 256 * gi l (4 * i + 1) + 65536 * gi l (4 * i + 2) + 16777216 * gi l (4 * i + 3)
theorem tri0 (w : World) (A B C : Obj) : (((w.alloc A).alloc B).alloc C).heap[w.heap.size]? = some A := by
  show (((w.heap.push _).push _).push _)[w.heap.size]? = _
  simp only [Array.getElem?_push, Array.size_push]
  rw [if_neg (by omega), if_neg (by omega), if_pos trivial]
theorem tri1 (w : World) (A B C : Obj) : (((w.alloc A).alloc B).alloc C).heap[w.heap.size + 1]? = some B := by
  show (((w.heap.push _).push _).push _)[w.heap.size + 1]? = _
  simp only [Array.getElem?_push, Array.size_push]
  rw [if_neg (by omega), if_pos trivial]
theorem tri2 (w : World) (A B C : Obj) : (((w.alloc A).alloc B).alloc C).heap[w.heap.size + 1 + 1]? = some C := by
  show (((w.heap.push _).push _).push _)[w.heap.size + 1 + 1]? = _
  simp only [Array.getElem?_push, Array.size_push]
  rw [if_pos trivial]
theorem rd_at {w : World} {k : IntKind} {g o n : Nat} {l : List Int} (h : Rd w 1 (ic k) (some ⟨g, o, none⟩) n l) (i : Nat) (hi : i < n) : w.cell? ⟨g, o + i, none⟩ = some (.int k (gi l i)) := by
  obtain ⟨_, e, h⟩ := h.int i hi
  obtain rfl := Option.some.inj e
  rw [← h]
  congr 1
  simp [Addr.add]
theorem or_word (x0 x1 x2 x3 : Int) (a0 : 0 ≤ x0) (b0 : x0 ≤ 255) (a1 : 0 ≤ x1) (b1 : x1 ≤ 255) (a2 : 0 ≤ x2) (b2 : x2 ≤ 255) (a3 : 0 ≤ x3) (b3 : x3 ≤ 255) :
    bits .or .u32 (bits .or .u32 (bits .or .u32 x0 (x1 * 256)) (x2 * 65536)) (x3 * 16777216) = x0 + 256 * x1 + 65536 * x2 + 16777216 * x3 := by
  have j1 : bits .or .u32 x0 (x1 * 256) = x0 + 256 * x1 := by
    rw [u32_or _ _ (by omega) (by omega) (by omega) (by omega), Nat.or_comm, nat_join 8 _ _ (by omega) (by omega)]
    omega
  have j2 : bits .or .u32 (x0 + 256 * x1) (x2 * 65536) = x0 + 256 * x1 + 65536 * x2 := by
    rw [u32_or _ _ (by omega) (by omega) (by omega) (by omega), Nat.or_comm, nat_join 16 _ _ (by omega) (by omega)]
    omega
  have j3 : bits .or .u32 (x0 + 256 * x1 + 65536 * x2) (x3 * 16777216) = x0 + 256 * x1 + 65536 * x2 + 16777216 * x3 := by
    rw [u32_or _ _ (by omega) (by omega) (by omega) (by omega), Nat.or_comm, nat_join 24 _ _ (by omega) (by omega)]
    omega
  rw [j1, j2, j3]
/-- Four words. -/
structure Q where
  a : Int
  b : Int
  c : Int
  d : Int
/-- 32 bits. -/
def U (x : Int) : Prop := 0 ≤ x ∧ x < 4294967296
theorem wrap_u (x : Int) : U (IntKind.u32.wrap x) := by
  simp only [IntKind.wrap, IntKind.bits, IntKind.signed, U]
  simp
  omega
theorem bits_u (op : BinOp) (x y : Int) : U (bits op .u32 x y) := wrap_u _
/-- All bits turned. -/
def nt (x : Int) : Int := bits .xor .u32 IntKind.u32.max x
def fF (i : Nat) (b c d : Int) : Int :=
  if i / 16 = 0 then bits .or .u32 (bits .and .u32 b c) (bits .and .u32 (nt b) d)
  else if i / 16 = 1 then bits .or .u32 (bits .and .u32 d b) (bits .and .u32 (nt d) c)
  else if i / 16 = 2 then bits .xor .u32 (bits .xor .u32 b c) d
  else bits .xor .u32 c (bits .or .u32 b (nt d))
def gF (i : Nat) : Nat := if i / 16 = 0 then i else if i / 16 = 1 then (5 * i + 1) % 16 else if i / 16 = 2 then (3 * i + 5) % 16 else 7 * i % 16
def stp (m : Nat → Int) (i : Nat) (s : Q) : Q :=
  ⟨s.d, (s.b + rl ((s.a + fF i s.b s.c s.d + gi kl i + m (gF i)) % 4294967296) (sh i)) % 4294967296, s.b, s.c⟩
def rnd (m : Nat → Int) (h : Q) : Nat → Q
  | 0 => h
  | n + 1 => stp m n (rnd m h n)
def QU (s : Q) : Prop := U s.a ∧ U s.b ∧ U s.c ∧ U s.d
theorem mod_u (x : Int) : U (x % 4294967296) := ⟨by omega, by omega⟩
theorem rnd_u (m : Nat → Int) (h : Q) (hh : QU h) : ∀ n, QU (rnd m h n) := by
  intro n
  induction n with
  | zero => exact hh
  | succ n ih => exact ⟨ih.2.2.2, mod_u _, ih.2.1, ih.2.2.1⟩
def blk (h : Q) (l : List Int) : Q :=
  ⟨(h.a + (rnd (wd l) h 64).a) % 4294967296, (h.b + (rnd (wd l) h 64).b) % 4294967296, (h.c + (rnd (wd l) h 64).c) % 4294967296, (h.d + (rnd (wd l) h 64).d) % 4294967296⟩
theorem blk_u (h : Q) (l : List Int) : QU (blk h l) := ⟨mod_u _, mod_u _, mod_u _, mod_u _⟩
theorem sh_bd (i : Nat) (h : i < 64) : 0 < sh i ∧ sh i < 32 := by
  have : ∀ j : Fin 64, 0 < sh j.val ∧ sh j.val < 32 := by decide +kernel
  exact this ⟨i, h⟩
theorem kl_bd (i : Nat) (h : i < 64) : U (gi kl i) := by
  have : ∀ j : Fin 64, 0 ≤ gi kl j.val ∧ gi kl j.val < 4294967296 := by decide +kernel
  exact this ⟨i, h⟩
theorem wd_bd {l : List Int} (h : ∀ x ∈ l, 0 ≤ x ∧ x ≤ 255) (i : Nat) (hi : 4 * i + 3 < l.length) : U (wd l i) := by
  have h0 := h _ (gi_mem (i := 4 * i) (l := l) (by omega))
  have h1 := h _ (gi_mem (i := 4 * i + 1) (l := l) (by omega))
  have h2 := h _ (gi_mem (i := 4 * i + 2) (l := l) (by omega))
  have h3 := h _ (gi_mem (i := 4 * i + 3) (l := l) (by omega))
  unfold wd U
  omega
theorem gF_bd (i : Nat) (h : i < 64) : gF i < 16 := by
  unfold gF
  split
  · omega
  · split
    · omega
    · split <;> omega
theorem Q.eta {s : Q} {a b c d : Int} (h : s = ⟨a, b, c, d⟩) : s.a = a ∧ s.b = b ∧ s.c = c ∧ s.d = d := by subst h; exact ⟨rfl, rfl, rfl, rfl⟩
/-- Four cells laid one by one. -/
theorem set4 {w : World} {g : Nat} {o0 o1 o2 o3 : Value} {t : TypeId} (h : w.heap[g]? = some (.cells #[o0, o1, o2, o3] t (0, 0))) (v0 v1 v2 v3 : Value) :
    ((((w.setCell ⟨g, 0, none⟩ v0).setCell ⟨g, 1, none⟩ v1).setCell ⟨g, 2, none⟩ v2).setCell ⟨g, 3, none⟩ v3).heap[g]? = some (.cells #[v0, v1, v2, v3] t (0, 0)) ∧
    Mod (fun k => k = g) w ((((w.setCell ⟨g, 0, none⟩ v0).setCell ⟨g, 1, none⟩ v1).setCell ⟨g, 2, none⟩ v2).setCell ⟨g, 3, none⟩ v3) := by
  refine ⟨?_, ?_⟩
  · have h0 := heap_setCell_same w g 0 _ t v0 h
    have h1 := heap_setCell_same _ g 1 _ t v1 h0
    have h2 := heap_setCell_same _ g 2 _ t v2 h1
    have h3 := heap_setCell_same _ g 3 _ t v3 h2
    rw [h3]
    simp
  · refine Mod.setCell (F := fun k => k = g) (p := ⟨g, 3, none⟩) ?_ (.inl rfl) v3
    refine Mod.setCell (F := fun k => k = g) (p := ⟨g, 2, none⟩) ?_ (.inl rfl) v2
    refine Mod.setCell (F := fun k => k = g) (p := ⟨g, 1, none⟩) ?_ (.inl rfl) v1
    refine Mod.setCell (F := fun k => k = g) (p := ⟨g, 0, none⟩) ?_ (.inl rfl) v0
    exact Mod.refl _ _
end Go.Proofs.Ytipkdhcbajcamaa
