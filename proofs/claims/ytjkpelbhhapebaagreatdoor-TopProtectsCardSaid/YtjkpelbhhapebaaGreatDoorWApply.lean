/-
  apply, walked: a change done to files. Conditions: files and names of ordinary sizes.
-/
import Derived.Test.YtjkpelbhhapebaaGreatDoorWFile
import Derived.WalkLawsBesides
import Derived.Outline
namespace Go.Proofs.YtjkpelbhhapebaaGreatDoor.W
open Go.RowKit Go.Maps
set_option maxRecDepth 100000
/-- What a write leaves. -/
def wrt (o : Option (List Int)) (off : Nat) (p : List Int) : List Int :=
  (o.getD [] ++ List.replicate (off + p.length - (o.getD []).length) 0).take off ++ (p ++ (o.getD [] ++ List.replicate (off + p.length - (o.getD []).length) 0).drop (off + p.length))
/-- The bytes, and zeros up to m. -/
def pz (b : List Int) (m : Nat) : List Int := b ++ List.replicate (m - b.length) 0
theorem pz_len (b : List Int) (m : Nat) (h : b.length ≤ m) : (pz b m).length = m := by simp [pz]; omega
theorem pz_snoc (b : List Int) (m : Nat) (h : b.length ≤ m) : pz b m ++ [0] = pz b (m + 1) := by
  unfold pz
  have e : m + 1 - b.length = m - b.length + 1 := by omega
  rw [e, List.append_assoc, List.replicate_succ']
theorem pz_self (b : List Int) : pz b b.length = b := by simp [pz]
/-- A slice's length. -/
def slen : Value → Nat
  | .slice _ n _ => n
  | _ => 0
section
variable {w : World} {ops : Array Oper} {rest : List Oper} {o : Oper} {a : Act} {Q : Exit → Act → World → Prop}
theorem list_store (m x v : Operand) (hg : o.guard = none) (hop : o.op = Op.mapUpdate 72 m x v) (mb n : Nat) (s : ByteArray) (val : Value) (f : ByteArray → Option (List Int)) (F : Nat → Prop) (l : List Int)
    (hm : a.eval m = .map (some mb)) (hx : a.eval x = .string s) (hv : a.eval v = val) (h : FS w mb n f F) (hn : n < maxLen) (hs : s.size ≤ maxLen) (hb : Rb w val l F)
    (hK : ∀ w', Mod (fun k => k = mb) w w' → FS w' mb (n + 1) (upd f s (some l)) F → wpList Tryz.prog ops Q rest (a.put o.dst undef) w') : wpList Tryz.prog ops Q (o :: rest) a w := by
  refine wpList_plain hg fun K' hK' => ?_
  obtain ⟨w', hrun, h1, h2⟩ := h.set hn s hs val l hb
  unfold Oper.wp
  simp [execOp, hop, hm, hx, hv, hrun, Result.andThen]
  exact hK' _ _ (hK w' h1 h2)
theorem list_del (m x : Operand) (hg : o.guard = none) (hop : o.op = .call { callee := .builtin .delete, args := #[m, x], argTypes := #[72, 9] }) (mb n : Nat) (s : ByteArray) (f : ByteArray → Option (List Int)) (F : Nat → Prop)
    (hm : a.eval m = .map (some mb)) (hx : a.eval x = .string s) (h : FS w mb n f F) (hs : s.size ≤ maxLen)
    (hK : ∀ w', Mod (fun k => k = mb) w w' → FS w' mb n (upd f s none) F → wpList Tryz.prog ops Q rest (a.put o.dst (.tuple #[])) w') : wpList Tryz.prog ops Q (o :: rest) a w := by
  refine wpList_plain hg fun K' hK' => ?_
  obtain ⟨w', hrun, h1, h2⟩ := h.del s hs o.type
  unfold Oper.wp
  simp [execOp, hop, resolve, invoke, builtin, hm, hx, hrun, Result.andThen]
  exact hK' _ _ (hK w' h1 h2)
end

/-- The bytes so far, in a row of the call's own; beside it the change. -/
def Aw (w wr : World) (bx : Obj) (v : Value) (q : List Int) : Prop :=
  Mod (fun _ => False) w wr ∧ wr.heap[w.heap.size]? = some bx ∧ Row wr 5 1 (ic .u8) v q ∧ ∀ k, v.ownBlock = some k → w.heap.size < k
theorem Aw.app {w wr w2 : World} {bx : Obj} {v v2 : Value} {q q2 : List Int} {o : Obj} (h : Aw w wr bx v q) (r2 : Row w2 5 1 (ic .u8) v2 q2) (g2 : (wr.alloc o).grownBy w2 v.ownBlock) (a2 : v2.ownBlock = v.ownBlock ∨ v2.ownBlock = some (wr.alloc o).heap.size) : Aw w w2 bx v2 q2 := by
  obtain ⟨h1, h2, h3, h4⟩ := h
  have hlt := (Array.getElem?_eq_some_iff.1 h2).1
  have hs := h1.size
  have m2 : Mod (fun k => v.ownBlock = some k) wr w2 := ((Mod.refl _ wr).alloc o).grown g2 (fun k hk => .inl hk)
  refine ⟨h1.trans m2 (fun i hi hg => by have := h4 i hg; omega), m2.heap h2 (fun e => by have := h4 _ e; omega), r2, fun k hk => ?_⟩
  rcases a2 with e | e
  · exact h4 k (e ▸ hk)
  · rw [e] at hk
    simp at hk
    omega
theorem own_map (A : Option Addr) (n c : Nat) : (Value.slice A n c).ownBlock = A.map (·.block) := by cases A <;> rfl
theorem Aw.own {w wr w2 : World} {bx : Obj} {v : Value} {q q2 : List Int} (h : Aw w wr bx v q) (r2 : Row w2 5 1 (ic .u8) v q2) (m2 : Mod (fun k => v.ownBlock = some k) wr w2) : Aw w w2 bx v q2 := by
  obtain ⟨h1, h2, h3, h4⟩ := h
  exact ⟨h1.trans m2 (fun i hi hg => by have := h4 i hg; omega), m2.heap h2 (fun e => by have := h4 _ e; omega), r2, h4⟩
/-- The files beside the new bytes. -/
theorem Aw.files {w wr : World} {bx : Obj} {v : Value} {q : List Int} {mb n : Nat} {f : ByteArray → Option (List Int)} {Fb : Nat → Prop} (h : Aw w wr bx v q) (hf : FS w mb n f Fb) :
    FS wr mb n f (fun k => Fb k ∨ (w.heap.size ≤ k ∧ k < wr.heap.size)) ∧ Rb wr v q (fun k => Fb k ∨ (w.heap.size ≤ k ∧ k < wr.heap.size)) := by
  have hmb := hf.lt
  have hnb : ¬ Fb mb := by obtain ⟨_, _, h, _⟩ := hf; exact h
  refine ⟨(hf.mod h.1 (fun _ _ h => h) (fun h => h)).mono (fun k hk => .inl hk) ?_, Rb.ofRow h.2.2.1 fun k hk => .inr ⟨by have := h.2.2.2 k hk; omega, h.2.2.1.lt k hk⟩⟩
  rintro (k | k)
  · exact hnb k
  · omega
/-- 'f[off:]'. -/
theorem cut_run (A : Option Addr) (m c off k : Nat) (h1 : off + k ≤ m) (h2 : m ≤ c) : ∃ dp, (∀ wx, (Instr.slice 22 (.slice A m c) (some (.int .i64 off)) none none).run Tryz.prog wx = .ok (.slice dp (m - off) (c - off)) wx) ∧ (0 < k → dp = A.map (·.add off)) := by
  refine ⟨if c = off then A else A.map (·.add off), fun wx => ?_, fun hk => by rw [if_neg (by omega)]⟩
  rw [run_slice_l wx 22 _ m c (by kernel_rfl) .i64 off (by omega) (by omega)]
  have hs : (sizeOf (Tryz.prog.elem 22)).run Tryz.prog wx = .ok 1 wx := by kernel_rfl
  simp [hs, sliced]
theorem wr_pz (o : Option (List Int)) (off : Nat) (p : List Int) (m : Nat) (h1 : (o.getD []).length ≤ m) (h2 : off + p.length ≤ m) (h3 : m ≤ (o.getD []).length ∨ m ≤ off + p.length) : (pz (o.getD []) m).take off ++ (p ++ (pz (o.getD []) m).drop (off + p.length)) = wrt o off p := by
  unfold wrt pz
  have e : m - (o.getD []).length = off + p.length - (o.getD []).length := by omega
  rw [e]

set_option maxHeartbeats 4000000 in
theorem apply_w (mb n : Nat) (f : ByteArray → Option (List Int)) (Fb G : Nat → Prop) (name nto : ByteArray) (off mo : Nat) (pv : Value) (l : List Int) (w : World) (hf : FS w mb n f Fb) (hn : n < 1000000000) (hs : name.size ≤ maxLen)
    (hp : Rb w pv l G) (hl : l.length ≤ 1073741824) (ho : off ≤ 1073741824) (hmo : mo ≤ 1073741824) (hol : ((f name).getD []).length ≤ 1073741824) :
    Calls Tryz.prog 31 #[.map (some mb), .agg #[.int .u8 119, .string name, .string nto, .int .i64 off, pv], .int .i64 mo] w fun e w' => e = .returned (.tuple #[]) ∧
      FS w' mb (n + 1) (upd f name (some (wrt (f name) off (l.take mo)))) (fun k => Fb k ∨ (w.heap.size ≤ k ∧ k < w'.heap.size)) ∧ Mod (fun k => k = mb) w w' := by
  obtain ⟨Ap, cp, rfl, hc1, hc2, hrp, hGp⟩ := hp
  obtain ⟨np, hnp⟩ : ∃ np, np = l.length := ⟨_, rfl⟩
  rw [← hnp] at hc1 hrp hGp hl
  have hmlt := hf.lt
  have ma : Mod (fun _ => False) w (w.alloc (.cells #[.int .u8 119, .string name, .string nto, .int .i64 off, .slice Ap l.length cp] 119)) := (Mod.refl _ w).alloc _
  rw [← hnp] at ma ⊢
  have hf1 := hf.mod ma (fun _ _ h => h) (fun h => h)
  have hrp1 := hrp.mod ma (fun _ _ h => h)
  obtain ⟨v0, hlk, -, ⟨A0, c0, rfl, hc01, hc02, hr0, hF0⟩, -⟩ := hf1.get name hs
  obtain ⟨n0, hn0⟩ : ∃ n0, n0 = ((f name).getD []).length := ⟨_, rfl⟩
  rw [← hn0] at hlk hc01 hr0 hF0 hol
  obtain ⟨k, hk⟩ : ∃ k, (np < mo ∧ k = np) ∨ (mo ≤ np ∧ k = mo) := by
    rcases Nat.lt_or_ge np mo with h | h
    · exact ⟨np, .inl ⟨h, rfl⟩⟩
    · exact ⟨mo, .inr ⟨h, rfl⟩⟩
  have hkl : l.take mo = l.take k := by
    rcases hk with ⟨h1, rfl⟩ | ⟨h1, rfl⟩
    · rw [List.take_of_length_le (by omega), List.take_of_length_le (by omega)]
    · rfl
  rw [hkl]
  clear hkl
  have hkn : k ≤ np := by rcases hk with ⟨h1, rfl⟩ | ⟨h1, rfl⟩ <;> omega
  have hrk := hide (hrp.take k hkn)
  have hA0 : Hid (Aw w (w.alloc (.cells #[.int .u8 119, .string name, .string nto, .int .i64 off, .slice Ap np cp] 119)) (.cells #[.int .u8 119, .string name, .string nto, .int .i64 off, .slice Ap np cp] 119) (.slice none 0 0) []) := hide ⟨ma, heap_alloc_new _ _, Row.nil _ _ _ _, by simp [Value.ownBlock]⟩
  replace hn0 := hide hn0
  replace hnp := hide hnp
  replace hf := hide hf
  replace hr0 := hide hr0
  replace hF0 := hide hF0
  replace hGp := hide hGp
  clear hrp1 hf1 ma hrp
  rcases hk with ⟨h1, hk⟩ | ⟨h1, hk⟩
  all_goals
    subst hk
    have hlk2 : (l.take k).length = k := hrk.out.1
    replace hlk2 := hide hlk2
    go_enter Tryz.func31, Tryz.ntmps31
    go_wp2_with (first
      | (at_builtin; refine list_app (.const (.slice none 0 0)) (.tmp 25) 22 5 _ 1 1 (ic .u8) rfl rfl (ic_len _) (ic_one _) Tryz.underlying22 elem5 (.slice none 0 0) [] A0 n0 c0 ((f name).getD []) rfl rfl (Row.nil _ _ _ _) hr0.out ?_ ?_ ?_
         (simp [maxLen]; omega)
         (simp; omega)
         intro v1 w1 r1 g1 a1
         obtain ⟨A1, c1, hv1, -, -⟩ := r1.slice
         rw [List.nil_append, ← hn0.out] at hv1
         rw [List.nil_append] at r1
         have hA1 : Hid (Aw w w1 (.cells #[.int .u8 119, .string name, .string nto, .int .i64 off, .slice Ap _ cp] 119) v1 (pz ((f name).getD []) n0)) := hide ⟨hA0.out.1.grown g1 (by simp [Value.ownBlock]), (grown_mod g1).heap hA0.out.2.1 (by simp [Value.ownBlock]), by rw [hn0.out, pz_self]; exact r1, fun k hk => (by
           rcases a1 with e | e
           · rw [e] at hk; simp [Value.ownBlock] at hk
           · rw [e] at hk; simp at hk; omega)⟩
         subst hv1))
    clear r1 g1 a1 hA0
    obtain ⟨bx, hbx, hA2⟩ : ∃ bx, Hid (∀ wr : World, wr.heap[w.heap.size]? = some bx → wr.cell? ⟨w.heap.size, 1, none⟩ = some (.string name) ∧ wr.cell? ⟨w.heap.size, 3, none⟩ = some (.int .i64 off)) ∧ Hid (Aw w w1 bx (.slice A1 n0 c1) (pz ((f name).getD []) n0)) :=
      ⟨_, hide (fun wr h => ⟨by rw [cell_of_row wr _ 1 _ 119 (0, 0) h]; rfl, by rw [cell_of_row wr _ 3 _ 119 (0, 0) h]; rfl⟩), hA1⟩
    clear hA1
    go_loopw [7] (fun v wr => ∃ (m : Nat) (A : Option Addr) (c : Nat), n0 ≤ m ∧ (m ≤ n0 ∨ m ≤ off + k) ∧ v = .slice A m c ∧ Hid (Aw w wr bx v (pz ((f name).getD []) m))) (fun v _ => off + k - slen v)
    case atStart => exact ⟨n0, A1, c1, Nat.le_refl _, .inl (Nat.le_refl _), rfl, hA2⟩
    case round =>
      clear hA2
      obtain ⟨m, A2, c2, hm1, hm2, rfl, hA⟩ := hrel
      obtain ⟨q1, q3⟩ := hbx.out wr hA.out.2.1
      by_cases hlt : m < off + k
      · have hd : decide (m < off + k) = true := by simpa using hlt
        go_wp2_with (first
          | (at_builtin; refine list_app (.tmp 35) (.tmp 36) 22 5 _ 1 1 (ic .u8) rfl rfl (ic_len _) (ic_one _) Tryz.underlying22 elem5 (.slice A2 m c2) (pz ((f name).getD []) m) (some ⟨wr.heap.size, 0, none⟩) 1 1 [0] rfl rfl (hA.out.2.2.1.alloc _) (Rd.box wr (ic .u8) 0 5) ?_ ?_ ?_
             (rw [pz_len _ _ (by rw [← hn0.out]; exact hm1)]; simp [maxLen]; omega)
             (rw [pz_len _ _ (by rw [← hn0.out]; exact hm1)]; omega)
             intro v4 w4 r4 g4 a4
             obtain ⟨A4, c4, hv4, -, -⟩ := r4.slice
             rw [pz_snoc _ _ (by rw [← hn0.out]; exact hm1)] at r4 hv4
             rw [pz_len _ _ (by rw [← hn0.out]; omega)] at hv4
             have hA4 : Hid (Aw w w4 bx v4 (pz ((f name).getD []) (m + 1))) := hide (hA.out.app r4 g4 a4)
             subst hv4))
        go_roundw
        case rel => exact ⟨m + 1, A4, c4, by omega, by omega, rfl, hA4⟩
        case measure => show off + k - (m + 1) < off + k - m; omega
      · have hd : decide (m < off + k) = false := by simpa using hlt
        have hrow := hA.out.2.2.1
        have hmc : m ≤ c2 := by
          obtain ⟨_, cc, he, hmc, hcm⟩ := hrow.slice
          have hLm : (pz ((f name).getD []) m).length = m := pz_len _ _ (by rw [← hn0.out]; exact hm1)
          rw [hLm] at he hmc
          injection he with _ _ he
          omega
        have hLm : (pz ((f name).getD []) m).length = m := pz_len _ _ (by rw [← hn0.out]; exact hm1)
        have hoc : off ≤ m := by omega
        have hmk : off + k ≤ m := by omega
        have hrk2 := hide (hrk.out.mod hA.out.1 (fun _ _ h => h))
        have hfr := hide (hf.out.mod hA.out.1 (fun _ _ h => h) (fun h => h))
        have hwr := wr_pz (f name) off (l.take k) m (by rw [← hn0.out]; exact hm1) (by rw [hlk2.out]; omega) (by rw [← hn0.out, hlk2.out]; exact hm2)
        rw [hlk2.out] at hwr
        replace hwr := hide hwr
        replace hLm := hide hLm
        replace hrow := hide hrow
        go_wp2_with (first
          | (refine list_copy (.tmp 41) (.tmp 42) rfl rfl A2 m c2 off _ hrow.out (if c2 = off then A2 else Option.map (fun x => x.add off) A2) Ap (c2 - off) k cp ?_ ?_ (l.take k) hrk2.out hmk ?_ ?_
             exact rfl
             exact rfl
             (intro h0; rw [if_neg (by omega)])
             intro w5 r5 m5
             rw [hwr.out] at r5
             rw [← own_map A2 m c2] at m5
             have hA5 := hide (hA.out.own r5 m5)
             obtain ⟨q51, -⟩ := hbx.out w5 hA5.out.2.1
             have hf5 := hide (hA5.out.files hf.out)
             clear r5 m5)
          | (at_mapUpdate; refine list_store (.tmp 44) (.tmp 46) (.tmp 47) rfl rfl mb n name _ f _ _ rfl rfl rfl hf5.out.1 (by simp [maxLen]; omega) hs hf5.out.2 ?_
             intro w6 m6 f6
             have hE : Hid (FS w6 mb (n + 1) (upd f name (some (wrt (f name) off (l.take k)))) (fun j => Fb j ∨ (w.heap.size ≤ j ∧ j < w6.heap.size)) ∧ Mod (fun j => j = mb) w w6) := hide ⟨f6.mono (fun j hj => by
               rcases hj with hj | ⟨h1, h2⟩
               · exact .inl hj
               · exact .inr ⟨h1, Nat.lt_of_lt_of_le h2 m6.size⟩) (by
               rintro (h | h)
               · obtain ⟨_, _, h2, _⟩ := hf.out; exact h2 h
               · have := hf.out.lt; omega), (hA5.out.1.mono (fun _ _ h => h.elim)).trans m6 (fun _ _ h => h)⟩
             clear m6 f6))
        all_goals
          refine bodyPost_end (results_none rfl _ _ _) rfl ?_
          exact ⟨rfl, hE.out⟩
end Go.Proofs.YtjkpelbhhapebaaGreatDoor.W
