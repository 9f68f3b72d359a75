/-
  Bytes as a text, walked: chap.Hex. Conditions: fewer than 2^46 bytes.
-/
import Derived.Test.YtipkdhcbajcamaaSum
import Derived.Laws.BytesString
import Derived.Lib.SlBytesConst
import Derived.ArgAppend
namespace Go.Proofs.Ytipkdhcbajcamaa
open Go.RowKit
/-- Bytes as a string. -/
def strOf (L : List Int) : ByteArray := L.foldl (fun r n => r.push (UInt8.ofNat n.toNat)) ByteArray.empty
theorem conv_str {w : World} {A : Option Addr} {n c : Nat} {L : List Int} (h : Rd w 1 (ic .u8) A n L) : (convert 22 9 (.slice A n c)).run Try.prog w = .ok (.string (strOf L)) w := by
  rw [run_convert_bytes_string w 22 9 5 A n c Try.underlying22 Try.underlying5 Try.underlying9]
  have hn : L.length = n := h.1
  cases A with
  | none =>
    have h0 : n = 0 := by
      rcases Nat.eq_zero_or_pos n with h0 | h0
      · exact h0
      · obtain ⟨ad, e, _⟩ := h.2 0 h0; cases e
    subst h0
    obtain rfl : L = [] := List.eq_nil_of_length_eq_zero hn
    simp [Conv.bytesToString, strOf, Sem.run_pure]
  | some ad =>
    have hl := run_loadCells_list (P := Try.prog) w ad (L.map (Value.int .u8)) (fun j u hu => by
      rw [List.getElem?_map] at hu
      obtain ⟨x, hx, rfl⟩ := Option.map_eq_some_iff.1 hu
      have hj : j < n := by rw [← hn]; exact (List.getElem?_eq_some_iff.1 hx).1
      obtain ⟨ad', e, hc⟩ := h.int j hj
      obtain rfl := Option.some.inj e
      rw [hc, gi_eq L j (by omega), (List.getElem?_eq_some_iff.1 hx).2])
    rw [List.length_map, hn] at hl
    exact run_bytesToString w ad n c L hl
/-- The digits' letters. -/
def hexC : List Int := [48, 49, 50, 51, 52, 53, 54, 55, 56, 57, 97, 98, 99, 100, 101, 102]
/-- Two digits for each byte. -/
def hexD (l : List Int) : List Int := l.flatMap fun b => [gi hexC (b / 16).toNat, gi hexC (b % 16).toNat]
def hexL (l : List Int) : List Int := [48, 120] ++ hexD l
theorem hexD_len (l : List Int) : (hexD l).length = 2 * l.length := by
  induction l with
  | nil => rfl
  | cons a l ih => simp only [hexD, List.flatMap_cons, List.length_append, List.length_cons, List.length_nil] at *; omega
theorem hexL_len (l : List Int) : (hexL l).length = 2 + 2 * l.length := by simp [hexL, hexD_len]; omega
theorem hexL_snoc (l : List Int) (k : Nat) (h : k < l.length) : hexL (l.take k) ++ [gi hexC (gi l k / 16).toNat, gi hexC (gi l k % 16).toNat] = hexL (l.take (k + 1)) := by
  rw [List.take_succ_eq_append_getElem h, gi_eq l k h]
  simp only [hexL, hexD, List.flatMap_append, List.flatMap_cons, List.flatMap_nil, List.append_assoc, List.append_nil]
theorem hexC_bd (i : Nat) (h : i < 16) : 0 ≤ gi hexC i ∧ gi hexC i ≤ 255 := by
  have : ∀ j : Fin 16, 0 ≤ gi hexC j.val ∧ gi hexC j.val ≤ 255 := by decide
  exact this ⟨i, h⟩
def digS : ByteArray := { data := #[48, 49, 50, 51, 52, 53, 54, 55, 56, 57, 97, 98, 99, 100, 101, 102] }
theorem dig_at (i : Int) (h0 : 0 ≤ i) (h1 : i < 16) (k : IntKind) (w : World) : (Instr.index 9 (.string digS) (.int k i)).run Try.prog w = .ok (.int .u8 (gi hexC i.toNat)) w := by
  obtain ⟨n, rfl⟩ := Int.eq_ofNat_of_zero_le h0
  have hn : n < 16 := by omega
  rw [run_index_string (w := w) 9 digS k n Try.underlying9]
  obtain rfl | rfl | rfl | rfl | rfl | rfl | rfl | rfl | rfl | rfl | rfl | rfl | rfl | rfl | rfl | rfl : n = 0 ∨ n = 1 ∨ n = 2 ∨ n = 3 ∨ n = 4 ∨ n = 5 ∨ n = 6 ∨ n = 7 ∨ n = 8 ∨ n = 9 ∨ n = 10 ∨ n = 11 ∨ n = 12 ∨ n = 13 ∨ n = 14 ∨ n = 15 := by omega
  all_goals rfl
theorem and15 (x : Int) (h0 : 0 ≤ x) (h1 : x ≤ 255) : bits .and .u8 x 15 = x % 16 := by
  rw [u8_and x 15 h0 (by omega) (by omega) (by omega), show (15 : Int).toNat = 15 from rfl, nat_mask4]
  omega

/-- A row of the call's own, or a full slice whose block bears a mark. -/
def Fl (w : World) (v : Value) (l : List Int) : Prop :=
  Row w 5 1 (ic .u8) v l ∨ ∃ g, v = .slice (some ⟨g, 0, none⟩) l.length l.length ∧ Rd w 1 (ic .u8) (some ⟨g, 0, none⟩) l.length l ∧ g < w.heap.size
theorem Fl.rd {w : World} {v : Value} {l : List Int} (h : Fl w v l) {A : Option Addr} {n c : Nat} (hv : v = .slice A n c) : Rd w 1 (ic .u8) A n l := by
  rcases h with h | ⟨g, e, h, _⟩
  · exact h.rd (ic_len _) hv
  · rw [hv] at e
    injection e with e1 e2 _
    subst e1; subst e2
    exact h
theorem Fl.mod {w w' : World} {v : Value} {l : List Int} {F : Nat → Prop} (h : Fl w v l) (hm : Mod F w w') (hn : ∀ k, v.ownBlock = some k → ¬ F k) : Fl w' v l := by
  rcases h with h | ⟨g, e, h, hg⟩
  · exact .inl (h.mod hm hn)
  · refine .inr ⟨g, e, h.mod hm (fun ad ea => ?_), Nat.lt_of_lt_of_le hg hm.size⟩
    obtain rfl := Option.some.inj ea
    exact hn _ (by rw [e]; rfl)
theorem run_app2 (w : World) (ty : TypeId) (v : Value) (l : List Int) (hv : Fl w v l) (A : Option Addr) (m c : Nat) (src : List Int) (hs : Rd w 1 (ic .u8) A m src) (hm0 : 0 < m) (hm : (l.length + m) ≤ 140737488355328) :
    ∃ v' w', (Builtin.append_ #[22, 22] ty #[v, .slice A m c]).run Try.prog w = .ok v' w' ∧ Row w' 5 1 (ic .u8) v' (l ++ src) ∧ w.grownBy w' v.ownBlock ∧ (v'.ownBlock = v.ownBlock ∨ ∀ k, v'.ownBlock = some k → w.heap.size ≤ k) := by
  rcases hv with hv | ⟨g, rfl, h, hg⟩
  · obtain ⟨v', w', h1, h2, h3, h4⟩ := run_app (P := Try.prog) w 22 ty 5 _ 1 1 (ic .u8) (ic_len _) (ic_one _) Try.underlying22 elem5 v l hv A m c src hs (by simp [maxLen]; omega) (by omega)
    refine ⟨v', w', h1, h2, h3, ?_⟩
    rcases h4 with e | e
    · exact .inl e
    · refine .inr fun k hk => ?_
      rw [e] at hk
      simp at hk
      omega
  · obtain ⟨hinfo, hz, hsz⟩ := elem5
    obtain ⟨i0, hi, hzz⟩ := Option.map_eq_some_iff.1 hinfo
    simp only [Prod.mk.injEq] at hzz
    obtain ⟨hz0, hz1, hz2⟩ := hzz
    obtain ⟨ad, rfl, _⟩ := hs.2 0 hm0
    have hcell : ∀ {B : Addr} {n : Nat} {q : List Int}, Rd w 1 (ic .u8) (some B) n q → ∀ j u, (q.flatMap (ic .u8))[j]? = some u → w.cell? (B.add j) = some u := by
      intro B n q hq j u hu
      rw [flat_ic, List.getElem?_map] at hu
      obtain ⟨x, hx, rfl⟩ := Option.map_eq_some_iff.1 hu
      have hj : j < n := by rw [← hq.1]; exact (List.getElem?_eq_some_iff.1 hx).1
      obtain ⟨_, e, hc⟩ := hq.int j hj
      obtain rfl := Option.some.inj e
      rw [hc, gi_eq q j (by rw [hq.1]; exact hj), (List.getElem?_eq_some_iff.1 hx).2]
    obtain ⟨v', w', hrun, r1, r2⟩ := run_append_arg_grows (P := Try.prog) w 22 ty 5 i0 _ 1 1 Try.underlying22 hi hz0 hz1 hz2 hz hsz ⟨g, 0, none⟩ l.length l.length (l.flatMap (ic .u8)) (by rw [flat_ic]; simp) (hcell h) ad m c (src.flatMap (ic .u8)) (by rw [flat_ic]; simp [hs.1]) (hcell hs) (by omega) (by simp [maxLen]; omega) (by omega)
    refine ⟨v', w', hrun, ?_, ⟨r2.os, r2.tape, r2.output, r2.size, fun k hk _ => r2.block k hk (by simp)⟩, .inr fun k hk => (World.ownsRow.lt r1 k hk).1⟩
    unfold Row
    rw [List.length_append, hs.1, List.flatMap_append]
    rcases r1 with ⟨q1, q2⟩
    refine ⟨q1, ?_⟩
    rcases q2 with q2 | ⟨a1, a2, a3, a4, a5, a6⟩
    · exact .inl q2
    · exact .inr ⟨a1, a2, a3, a4, Nat.zero_le _, a6⟩
theorem step_app2 {w : World} {ops : Array Oper} {o : Oper} {a : Act} {K : Act → World → Prop} {Q : Exit → Act → World → Prop} {E : Prop} (s x : Operand)
    (ho : o.op = .call { callee := .builtin .append, args := #[s, x], argTypes := #[22, 22] }) (hg : o.guard = none) (v : Value) (l : List Int) (A : Option Addr) (m c : Nat) (src : List Int)
    (hsv : a.eval s = v) (hx : a.eval x = .slice A m c) (hv : Fl w v l) (hs : Rd w 1 (ic .u8) A m src) (hm0 : 0 < m) (hm : (l.length + m) ≤ 140737488355328)
    (h : ∀ v' w', Row w' 5 1 (ic .u8) v' (l ++ src) → w.grownBy w' v.ownBlock → (v'.ownBlock = v.ownBlock ∨ ∀ k, v'.ownBlock = some k → w.heap.size ≤ k) → K (a.put o.dst v') w') :
    if Region.wanted o (yielded ops a.tmps) = true then Oper.wp Try.prog o a w K Q else E := by
  have hw : Region.wanted o (yielded ops a.tmps) = true := by simp [Region.wanted, hg]
  rw [if_pos hw]
  obtain ⟨v', w', hrun, h2, h3, h4⟩ := run_app2 w o.type v l hv A m c src hs hm0 hm
  unfold Oper.wp execOp
  simp only [ho, resolve, invoke, builtin, Sem.run_bind, Sem.run_pure, Result.andThen_ok, List.map_toArray, List.map_cons, List.map_nil, hsv, hx, hrun]
  exact h v' w' h2 h3 h4

/-- What is laid so far. -/
def Hx (w wr : World) (v : Value) (q : List Int) : Prop := Mod (fun _ => False) w wr ∧ Fl wr v q ∧ ∀ k, v.ownBlock = some k → w.heap.size ≤ k
theorem rd_two (w : World) (a b : Int) : Rd (w.alloc (.cells #[.int .u8 a, .int .u8 b] 5)) 1 (ic .u8) (some ⟨w.heap.size, 0, none⟩) 2 [a, b] :=
  rd_ints rfl fun i hi => ⟨_, rfl, by
    have e : (⟨w.heap.size, 0, none⟩ : Addr).add i = ⟨w.heap.size, i, none⟩ := by simp [Addr.add]; rintro rfl; rfl
    rw [e, World.cell?_alloc_new]
    obtain rfl | rfl : i = 0 ∨ i = 1 := by omega
    all_goals rfl⟩
theorem Hx.start (w : World) : Hx w (w.alloc (.cells #[.int .u8 48, .int .u8 120] 5 (2, 3))) (.slice (some ⟨w.heap.size, 0, none⟩) 2 2) (hexL []) := by
  refine ⟨(Mod.refl _ w).alloc _, .inr ⟨w.heap.size, rfl, ?_, by simp⟩, fun k hk => by simp [Value.ownBlock] at hk; omega⟩
  exact rd_ints rfl fun i hi => ⟨_, rfl, by
    have e : (⟨w.heap.size, 0, none⟩ : Addr).add i = ⟨w.heap.size, i, none⟩ := by simp [Addr.add]; rintro rfl; rfl
    rw [e, World.cell?_alloc_mark]
    have hi : i < 2 := hi
    obtain rfl | rfl : i = 0 ∨ i = 1 := by omega
    all_goals rfl⟩
theorem Hx.app {w wr w2 : World} {v v2 : Value} {q q2 : List Int} {o : Obj} (h : Hx w wr v q) (r2 : Row w2 5 1 (ic .u8) v2 q2) (g2 : (wr.alloc o).drew.grownBy w2 v.ownBlock) (a2 : v2.ownBlock = v.ownBlock ∨ ∀ k, v2.ownBlock = some k → (wr.alloc o).drew.heap.size ≤ k) : Hx w w2 v2 q2 := by
  obtain ⟨h1, h3, h4⟩ := h
  have hs := h1.size
  have m2 : Mod (fun k => v.ownBlock = some k) wr w2 := (((Mod.refl _ wr).alloc o).drew).grown g2 (fun k hk => .inl hk)
  refine ⟨h1.trans m2 (fun i hi hg => by have := h4 i hg; omega), .inl r2, fun k hk => ?_⟩
  rcases a2 with e | e
  · exact h4 k (e ▸ hk)
  · have := e k hk
    have hz : (wr.alloc o).drew.heap.size = wr.heap.size + 1 := by simp
    omega

set_option maxHeartbeats 2000000 in
theorem hex_any (A : Option Addr) (len cap : Nat) (l : List Int) (w : World) (hr : Rd w 1 (ic .u8) A len l) (hlen : len ≤ 70000000000000) (hby : Hid (∀ x ∈ l, 0 ≤ x ∧ x ≤ 255)) :
    Calls Try.prog 12 #[.slice A len cap] w fun e w' => e = .returned (.string (strOf (hexL l))) ∧ Mod (fun _ => False) w w' := by
  have HL : Hid (l.length = len) := hr.1
  replace hr := hide hr
  have kc := fun (w : World) (C : Array Value) (n c : Nat) => Lib.run_convert_bytes_const (P := Try.prog) w 22 5 C n c Try.underlying22 Try.underlying5
  go_enter Try.func12, Try.ntmps12
  go_wp2
  go_loopw [3, 10] (fun v i wr => ∃ (k n : Nat) (A2 : Option Addr) (c : Nat), k ≤ len ∧ i = .int .i64 k ∧ Hid (n = 2 + 2 * k) ∧ v = .slice A2 n c ∧ Hid (Hx w wr v (hexL (l.take k)))) (fun _ i _ => len - (intOf i).toNat)
  case atStart => exact ⟨0, 2, _, 2, by omega, rfl, hide rfl, rfl, hide (Hx.start w)⟩
  case round =>
    obtain ⟨k, n, A2, c2, hk, rfl, hn, rfl, hH⟩ := hrel
    by_cases hlt : k < len
    · obtain ⟨ad, hA, hck⟩ := (hr.out.mod hH.out.1 (fun _ _ h => h)).int k hlt
      subst hA
      obtain ⟨b1, b2⟩ := hby.out _ (gi_mem (i := k) (l := l) (by rw [HL.out]; exact hlt))
      have hsn := hexL_snoc l k (by rw [HL.out]; exact hlt)
      have hln : (hexL (l.take k)).length = 2 + 2 * k := by rw [hexL_len, List.length_take, HL.out]; omega
      have hln2 : (hexL (l.take (k + 1))).length = 2 + 2 * (k + 1) := by rw [hexL_len, List.length_take, HL.out]; omega
      generalize gi l k = x at *
      have i1 := dig_at (x / 16) (by omega) (by omega) .u8
      have i2 := dig_at (x % 16) (by omega) (by omega) .u8
      have i3 := and15 x b1 b2
      generalize gi hexC (x / 16).toNat = d1 at *
      generalize gi hexC (x % 16).toNat = d2 at *
      unfold digS at i1 i2
      replace hsn := hide hsn
      replace hln := hide hln
      replace hln2 := hide hln2
      have hbx : Rd (wr.alloc (.cells #[.int .u8 d1, .int .u8 d2] 5)).drew 1 (ic .u8) (some ⟨wr.heap.size, 0, none⟩) 2 [d1, d2] := rd_two wr d1 d2
      have hfl : Fl (wr.alloc (.cells #[.int .u8 d1, .int .u8 d2] 5)).drew (.slice A2 n c2) (hexL (l.take k)) := hH.out.2.1.mod (((Mod.refl (fun _ => False) wr).alloc _).drew) (fun _ _ h => h)
      replace hbx := hide hbx
      replace hfl := hide hfl
      go_wp2
      go_region_law (first
        | (refine step_app2 (.tmp 14) (.tmp 21) rfl rfl (.slice A2 n c2) (hexL (l.take k)) (some ⟨wr.heap.size, 0, none⟩) 2 2 [d1, d2] ?_ ?_ hfl.out hbx.out ?_ ?_ ?_
           (simp [Act.eval])
           (simp [Act.eval])
           (decide)
           (rw [hln.out]; omega)
           intro v2 w2 r2 g2 a2
           rw [hsn.out] at r2
           have hH2 : Hid (Hx w w2 v2 (hexL (l.take (k + 1)))) := hide (hH.out.app r2 g2 a2)
           obtain ⟨A5, c5, hv5, -, -⟩ := r2.slice
           obtain ⟨n5, hn5⟩ : ∃ n5, n5 = (hexL (l.take (k + 1))).length := ⟨_, rfl⟩
           rw [← hn5] at hv5
           rw [hln2.out] at hn5
           replace hn5 := hide hn5
           clear r2 g2 a2
           subst hv5))
      all_goals
        go_wp2
        go_roundw
        case rel => exact ⟨k + 1, n5, A5, c5, by omega, by go_num, hn5, rfl, hH2⟩
        case measure => simp [intOf]; omega
    · have hkl : k = len := by omega
      have hcs := conv_str (c := c2) (hH.out.2.1.rd rfl)
      have hl2 : l.take k = l := List.take_of_length_le (by rw [HL.out]; omega)
      rw [hl2] at hcs
      replace hkl := hide hkl
      replace hl2 := hide hl2
      go_wp2
      go_ret
      exact ⟨rfl, hH.out.1⟩
end Go.Proofs.Ytipkdhcbajcamaa
