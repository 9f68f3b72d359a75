/-
  What the laws' own calls take: bytes as strings, what is seen after a change; and the example that each law begins with. Conditions: as stated.
-/
import Derived.Test.YtmlnieblgkhjnaaRen
import Derived.Lib.SlBytesConst
namespace Go.Proofs.Ytmlnieblgkhjnaa
open Go.RowKit Go.Maps
/-- Bytes as a string. -/
def strOf (L : List Int) : ByteArray := L.foldl (fun r n => r.push (UInt8.ofNat n.toNat)) ByteArray.empty
theorem conv_str {w : World} {A : Option Addr} {n c : Nat} {L : List Int} (h : Rd w 1 (ic .u8) A n L) : (convert 23 9 (.slice A n c)).run Try.prog w = .ok (.string (strOf L)) w := by
  rw [run_convert_bytes_string w 23 9 5 A n c Try.underlying23 Try.underlying5 Try.underlying9]
  have hn : L.length = n := h.1
  cases A with
  | none =>
    have h0 : n = 0 := by
      rcases Nat.eq_zero_or_pos n with h0 | h0
      · exact h0
      · obtain ⟨ad, e, _⟩ := h.2 0 h0; cases e
    subst h0
    obtain rfl : L = [] := List.eq_nil_of_length_eq_zero hn
    simp [Conv.bytesToString, strOf, Sem.run_pure]
  | some ad =>
    have hl := run_loadCells_list (P := Try.prog) w ad (L.map (Value.int .u8)) (fun j u hu => by
      rw [List.getElem?_map] at hu
      obtain ⟨x, hx, rfl⟩ := Option.map_eq_some_iff.1 hu
      have hj : j < n := by rw [← hn]; exact (List.getElem?_eq_some_iff.1 hx).1
      obtain ⟨ad', e, hc⟩ := h.int j hj
      obtain rfl := Option.some.inj e
      rw [hc, gi_eq L j (by omega), (List.getElem?_eq_some_iff.1 hx).2])
    rw [List.length_map, hn] at hl
    exact run_bytesToString w ad n c L hl
theorem conv_row {w : World} {A : Option Addr} {n c : Nat} {L : List Int} (h : Row w 5 1 (ic .u8) (.slice A n c) L) : (convert 23 9 (.slice A n c)).run Try.prog w = .ok (.string (strOf L)) w := conv_str (h.rd (ic_len _) rfl)
/-- No call fails. -/
def NF (d : Wd) : Prop := ∀ i, d.fl i = false
theorem NF.er {d : Wd} (h : NF d) : er d = 0 := by unfold Ytmlnieblgkhjnaa.er; rw [h]; rfl
theorem did_fl (d : Wd) (c : Cg) : (did d c).fl = d.fl := by unfold did; split <;> rfl
theorem NF.did {d : Wd} (h : NF d) (c : Cg) : NF (did d c) := by intro i; rw [did_fl]; exact h i
theorem NF.tick {d : Wd} (h : NF d) : NF (tick d) := h
theorem NF.wd0 : NF wd0 := fun _ => rfl
theorem NF.eq {d : Wd} (h : NF d) (c : Cg) : Ytmlnieblgkhjnaa.did d c = { d with seen := ap d.seen c c.p.length, waits := d.waits ++ [c], ops := d.ops + 1 } := by unfold Ytmlnieblgkhjnaa.did; rw [h]; rfl
/-- What is seen after a write. -/
theorem seen_w {d : Wd} (h : NF d) (s : ByteArray) (off : Nat) (p : List Int) : (did d ⟨119, s, ⟨#[]⟩, off, p⟩).seen = upd d.seen s (some (wrt (d.seen s) off p)) := by
  rw [h.eq]
  simp [ap]
theorem seen_n {d : Wd} (h : NF d) (s t : ByteArray) (L : List Int) (hs : d.seen s = some L) : (did d ⟨110, s, t, 0, []⟩).seen = upd (upd d.seen s none) t (some L) := by
  rw [h.eq]
  simp [ap, hs]
theorem seen_r {d : Wd} (h : NF d) (s : ByteArray) : (did d ⟨114, s, ⟨#[]⟩, 0, []⟩).seen = upd d.seen s none := by
  rw [h.eq]
  simp [ap]
theorem wrt_new (p : List Int) : wrt none 0 p = p := by simp [wrt]
theorem upd_same (f : ByteArray → Option (List Int)) (s : ByteArray) (l : Option (List Int)) : upd f s l s = l := by simp [upd]
theorem upd_other (f : ByteArray → Option (List Int)) (s t : ByteArray) (l : Option (List Int)) (h : t ≠ s) : upd f s l t = f t := by simp [upd, h]
/-- Write at 0, no failure. -/
theorem write_0 (B b : Nat) (d : Wd) (N : Nat) (F : Nat → Prop) (s : ByteArray) (A : Option Addr) (m cap : Nat) (l : List Int) (w : World) (h : WS B w b d N F) (hN : N < 100000) (h1 : 1 ≤ s.size) (h2 : s.size ≤ 32)
    (hr : Rd w 1 (ic .u8) A m l) (ho : m ≤ 1048576) (hn : NF d) :
    Calls Try.prog 11 #[.pointer (some ⟨b, 0, none⟩), .string s, .int .i64 0, .slice A m cap] w fun e w' => ∃ F', e = .returned (.int .i64 0) ∧ WS B w' b (did d ⟨119, s, ⟨#[]⟩, 0, l⟩) (N + 1) F' ∧ Nxt B F F' w w' := by
  have := write_some B b d N F s 0 A m cap l w h hN h1 h2 hr (by omega)
  rw [hn.er] at this
  exact this
theorem read_0 (B b : Nat) (d : Wd) (N : Nat) (F : Nat → Prop) (s : ByteArray) (n : Nat) (z : Int) (hz : z = n) (L : List Int) (w : World) (h : WS B w b d N F) (hN : N < 100000) (hfl : NF d) (h1 : 1 ≤ s.size) (h2 : s.size ≤ 32) (hs : d.seen s = some L) (hn : n ≤ 100000) (hL : L.length ≤ n) :
    Calls Try.prog 12 #[.pointer (some ⟨b, 0, none⟩), .string s, .int .i64 0, .int .i64 z] w fun e w' => ∃ A c, e = .returned (.tuple #[.slice A L.length c, .int .i64 0]) ∧ Row w' 5 1 (ic .u8) (.slice A L.length c) L ∧ (∀ k, (Value.slice A L.length c).ownBlock = some k → w.heap.size ≤ k) ∧ WS B w' b (tick d) (N + 1) F ∧ Nxt B F F w w' := by
  subst hz
  refine (read_some B b d N F s 0 n L w h hN (hfl _) h1 h2 hs hn (by omega)).mono ?_
  rintro e w' ⟨v, h1, h2, h3, h4, h5⟩
  rw [List.drop_zero, List.take_of_length_le hL] at h2
  obtain ⟨A, c, rfl, -, -⟩ := h2.slice
  exact ⟨A, c, h1, h2, h3, h4, h5⟩

theorem rd_xy (w : World) (fr : Nat × Nat) : Rd (w.alloc (.cells #[.int .u8 120, .int .u8 121] 5 fr)) 1 (ic .u8) (some ⟨w.heap.size, 0, none⟩) 2 [120, 121] :=
  rd_ints rfl fun i hi => ⟨_, rfl, by
    have e : (⟨w.heap.size, 0, none⟩ : Addr).add i = ⟨w.heap.size, i, none⟩ := by simp [Addr.add]; rintro rfl; rfl
    rw [e, World.cell?_alloc_mark]
    have hi : i < 2 := hi
    obtain rfl | rfl : i = 0 ∨ i = 1 := by omega
    all_goals rfl⟩
theorem awake_seen : (did wd0 ⟨119, ⟨#[97]⟩, ⟨#[]⟩, 0, [120, 121]⟩).seen ⟨#[97]⟩ = some [120, 121] := by
  rw [seen_w NF.wd0, upd_same]
  rfl
set_option maxHeartbeats 1000000 in
theorem awake_any (w : World) : Calls Try.prog 8 #[] w fun e w' => e = .returned (.bool true) ∧ Mod (fun _ => False) w w' := by
  have kc := fun (w : World) (C : Array Value) (n c : Nat) => Lib.run_convert_bytes_const (P := Try.prog) w 23 5 C n c Try.underlying23 Try.underlying5
  have hstr : strOf [121] = ⟨#[121]⟩ := by kernel_rfl
  go_enter Try.func8, Try.ntmps8
  go_wp2_with (first
    | (go_at_call 9; (with_reducible refine (new_any w w.heap.size (Nat.le_refl _)).mono ?_); rintro e w1 ⟨b, F, rfl, k1, m1, -⟩
       have kc1 := kc w1 #[.int .u8 120, .int .u8 121] 2 2
       have m2 : Mod (fun _ => False) w1 (w1.alloc (.cells #[.int .u8 120, .int .u8 121] 5 (2, 3))) := (Mod.refl _ w1).alloc _
       have hw := write_0 w.heap.size b wd0 0 F ⟨#[97]⟩ (some ⟨w1.heap.size, 0, none⟩) 2 2 [120, 121] _ (k1.mod m2 (fun _ _ h => h)) (by omega) (by decide) (by decide) (rd_xy w1 (2, 3)) (by omega) NF.wd0
       replace m2 := hide m2; replace hw := hide hw; replace k1 := hide k1; replace m1 := hide m1)
    | (go_at_call 11; (with_reducible refine hw.out.mono ?_); rintro e w2 ⟨F2, rfl, k2, n2⟩
       have hr : Calls Try.prog 12 #[.pointer (some ⟨b, 0, none⟩), .string ⟨#[97]⟩, .int .i64 1, .int .i64 9] w2 _ := read_some w.heap.size b _ 1 F2 ⟨#[97]⟩ 1 9 [120, 121] w2 k2 (by omega) (NF.wd0.did _ _) (by decide) (by decide) awake_seen (by omega) (by omega)
       replace k2 := hide k2; replace n2 := hide n2; replace hr := hide hr)
    | (go_at_call 12; (with_reducible refine hr.out.mono ?_); rintro e w3 ⟨v3, rfl, r3, -, k3, n3⟩
       have r3' : Row w3 5 1 (ic .u8) v3 [121] := r3
       obtain ⟨A3, c3, rfl, -, -⟩ := r3'.slice
       have cs : (convert 23 9 (.slice A3 1 c3)).run Try.prog w3 = .ok (.string ⟨#[121]⟩) w3 := by rw [← hstr]; exact conv_row r3'
       replace k3 := hide k3; replace n3 := hide n3; clear r3 r3'))
  go_ret
  have hM := ((m1.out.below (B := w.heap.size) (Nat.le_refl _) (fun _ h => h.elim)).trans (m2.out.below (B := w.heap.size) m1.out.size (fun _ h => h.elim))).trans (n2.out.2.1.trans n3.out.2.1)
  exact ⟨rfl, Mod.ofBelow hM⟩
end Go.Proofs.Ytmlnieblgkhjnaa
