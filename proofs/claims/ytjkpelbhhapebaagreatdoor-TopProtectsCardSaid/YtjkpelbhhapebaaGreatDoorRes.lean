/-
  Results and senses, as values; sbc.good, fails, at, differ, write, walked. Conditions: as stated.
-/
import Derived.Test.YtjkpelbhhapebaaGreatDoorUnpack
namespace Go.Proofs.YtjkpelbhhapebaaGreatDoor
open Go.RowKit
open W (Nxt)
set_option maxRecDepth 100000
/-- A sense with a number, or with none. -/
abbrev seA (key code info : Int) (has : Bool) : Array Value := #[.int .u8 key, .int .u16 code, .int .u64 info, .bool has, .int .i64 0, .int .i64 0, .bool false, .bool false]
/-- A result. -/
abbrev rcA (st key code info : Int) (has : Bool) (data : Value) : Array Value := #[.int .u8 st, .int .u8 key, .int .u16 code, .int .u64 info, .bool has, .int .i64 0, .int .i64 0, .bool false, .bool false, data]
abbrev zs35 : Array Value := #[.int .u8 0, .int .u8 0, .int .u16 0, .int .u64 0, .bool false, .int .i64 0, .int .i64 0, .bool false, .bool false, .slice none 0 0]
theorem rc_one (st key code info : Int) (has : Bool) (A : Option Addr) (n c : Nat) : (rcA st key code info has (.slice A n c)).all (·.oneCell') = true :=
  all_oneCell_toArray (cs := [.int .u8 st, .int .u8 key, .int .u16 code, .int .u64 info, .bool has, .int .i64 0, .int .i64 0, .bool false, .bool false, .slice A n c]) (fun u hu => by
    simp only [List.mem_cons, List.not_mem_nil, or_false] at hu
    rcases hu with rfl | rfl | rfl | rfl | rfl | rfl | rfl | rfl | rfl | rfl <;> rfl)
theorem size35 : (Tryz.prog.info? 35).map (·.size) = some 10 := by kernel_rfl
theorem new35 (w : World) : (w.alloc (.cells zs35 35)).heap[w.heap.size]? = some (.cells zs35 35 (0, 0)) := heap_alloc_new _ _
abbrev rsA (st key code info : Int) (has : Bool) (data : Value) : Value := .agg #[.int .u8 st, .int .u8 key, .int .u16 code, .int .u64 info, .bool has, .int .i64 0, .int .i64 0, .bool false, .bool false, data]
abbrev okR (data : Value) : Value := rsA 0 0 0 0 false data
set_option maxHeartbeats 1000000 in
theorem good_any (A : Option Addr) (n c : Nat) (w : World) : Calls Tryz.prog 101 #[.slice A n c] w fun e w' => e = .returned (okR (.slice A n c)) ∧ Mod (fun _ => False) w w' := by
  have h1 : Mod (fun _ => False) w (w.alloc (.cells #[.int .u8 0, .int .u8 0, .int .u16 0, .int .u64 0, .bool false, .int .i64 0, .int .i64 0, .bool false, .bool false, .slice A n c] 35)) := (Mod.refl _ w).alloc _
  replace h1 := hide h1
  go_enter Tryz.func101, Tryz.ntmps101
  go_wp2
  exact bodyPost_ret (v := okR (.slice A n c)) (by simp [results, Tryz.results101, go_sem]) rfl ⟨rfl, (Mod.refl _ w).alloc _⟩
set_option maxHeartbeats 1000000 in
theorem fails_any (key code info : Int) (has : Bool) (w : World) : Calls Tryz.prog 95 #[.agg (seA key code info has)] w fun e w' => e = .returned (rsA 2 key code info has (.slice none 0 0)) ∧ Mod (fun _ => False) w w' := by
  go_enter Tryz.func95, Tryz.ntmps95
  go_wp2
  exact bodyPost_ret (v := rsA 2 key code info has (.slice none 0 0)) (by simp [results, Tryz.results95, go_sem]) rfl ⟨rfl, ((Mod.refl _ w).alloc _).alloc _⟩
set_option maxHeartbeats 1000000 in
theorem at_any (key code info : Int) (w : World) : Calls Tryz.prog 99 #[.int .u8 key, .int .u16 code, .int .u64 info] w fun e w' => e = .returned (rsA 2 key code info true (.slice none 0 0)) ∧ Mod (fun _ => False) w w' := by
  have h1 := fails_any key code info true (w.alloc (.cells zs35 35))
  have h0 := new35 w
  replace h1 := hide h1; replace h0 := hide h0
  go_enter Tryz.func99, Tryz.ntmps99
  go_wp2_with (first
    | (go_at_call 95; (with_reducible refine h1.out.mono ?_); rintro e w1 ⟨rfl, m1⟩
       have h2 := m1.heap h0.out (fun h => h)
       replace m1 := hide m1; replace h2 := hide h2)
    | (refine list_put 35 (.tmp 6) (.tmp 11) rfl rfl w.heap.size (rcA 2 key code info true (.slice none 0 0)) rfl rfl zs35 h2.out rfl size35 (rc_one _ _ _ _ _ _ _ _) ?_
       intro w3 h3 m3; replace h3 := hide h3; replace m3 := hide m3))
  exact bodyPost_ret (v := rsA 2 key code info true (.slice none 0 0)) (results_one rfl rfl (load_whole h3.out Tryz.underlying35 rfl size35)) rfl ⟨rfl, ((((Mod.refl _ w).alloc _).trans m1.out (fun _ _ h => h)).trans m3.out (fun i hi e => by omega))⟩
theorem W.Nxt.new {B g : Nat} {F F' : Nat → Prop} {a b c : World} (h : Nxt B F F' a b) (hB : B ≤ a.heap.size) (m : Mod (fun k => k = g) b c) (hg : a.heap.size ≤ g) : Nxt B F F' a c :=
  ⟨h.1.trans m (fun i hi e => by omega), h.2.1.trans ⟨m.os, m.tape, m.output, m.size, fun k hk => m.block k (by have := h.2.1.size; omega) (by omega)⟩, h.2.2⟩
/-- The device at block dv: its store, the type of its protection. -/
def DV (w : World) (dv p : Nat) (prot : Int) : Prop := w.heap[dv]? = some (.cells #[.pointer (some ⟨p, 0, none⟩), .int .u8 prot] 129 (0, 0))
section
variable {w w' : World} {dv p : Nat} {prot : Int} {F : Nat → Prop}
theorem DV.lt (h : DV w dv p prot) : dv < w.heap.size := (Array.getElem?_eq_some_iff.1 h).1
theorem DV.c0 (h : DV w dv p prot) : w.cell? ⟨dv, 0, none⟩ = some (.pointer (some ⟨p, 0, none⟩)) := by rw [cell_of_row w _ 0 _ 129 (0, 0) h]; rfl
theorem DV.c1 (h : DV w dv p prot) : w.cell? ⟨dv, 1, none⟩ = some (.int .u8 prot) := by rw [cell_of_row w _ 1 _ 129 (0, 0) h]; rfl
theorem DV.mod (h : DV w dv p prot) (hm : Mod F w w') (hn : ¬ F dv) : DV w' dv p prot := hm.heap h hn
end
set_option maxHeartbeats 1000000 in
theorem swrite_in (B M dv p wb c : Nat) (prot : Int) (x : Wx) (F : Nat → Prop) (s : ByteArray) (cache fua : Bool) (lba : Nat) (A : Option Addr) (l : List Bl) (w : World) (hd : DV w dv p prot) (hs : ST w p wb s cache) (hW : WU B w wb M x F) (hp : ¬ F p) (hM : M < 90000) (hl : lba + l.length ≤ 32) (h1 : 1 ≤ s.size) (h2 : s.size ≤ 32)
    (hr : Rd w 19 encB A l.length l) (hA : ∀ ad, A = some ad → ¬ F ad.block ∧ ad.block < w.heap.size) (hb : ∀ b ∈ l, OkBl b) :
    Calls Tryz.prog 104 #[.pointer (some ⟨dv, 0, none⟩), .int .u64 lba, .slice A l.length c, .bool fua] w fun e w' => ∃ F', e = .returned (okR (.slice none 0 0)) ∧
      WU B w' wb (M + 2 * l.length + 1) (laidX x s lba l (fua || !cache)) F' ∧ Nxt B F F' w w' := by
  have hbd := hW.bound
  have hBs : B ≤ w.heap.size := by
    obtain ⟨d, N, h, -⟩ := hW
    exact h.2.2
  have m1 : Mod (fun _ => False) w (w.alloc (.cells zs35 35)) := (Mod.refl _ w).alloc _
  have h0 := new35 w
  have hwr := write_in B M p wb c x F s cache fua lba A l _ (hs.mod m1 (fun h => h)) (hW.mod m1 (fun _ _ h => h)) hp hM hl h1 h2 (hr.mod m1 (fun _ _ h => h)) (fun ad e => ⟨(hA ad e).1, Nat.lt_of_lt_of_le (hA ad e).2 m1.size⟩) hb
  have hN := (W.Nxt.refl F w hBs (fun k hk => (hbd k hk).1)).add hBs m1
  have c0 := hd.c0
  have hdlt := hd.lt
  have hgo := fun w => good_any none 0 0 w
  have hll : l.length ≤ 32 := by omega
  have hgF : ¬ F w.heap.size := fun h => by have := (hbd _ h).2; omega
  generalize l.length = n at *
  replace hs := hide hs; replace hW := hide hW; replace hr := hide hr; replace hN := hide hN; replace hA := hide hA; replace hb := hide hb; replace hbd := hide hbd; replace m1 := hide m1; replace h0 := hide h0; replace hwr := hide hwr; replace hd := hide hd; replace hgo := hide hgo
  go_enter Tryz.func104, Tryz.ntmps104
  go_wp2_with (first
    | (go_at_call 140; (with_reducible refine hwr.out.mono ?_); rintro e w1 ⟨F', rfl, hW3, hN3⟩
       have h4 := hN3.1.heap h0.out hgF
       replace hW3 := hide hW3; replace hN3 := hide hN3; replace h4 := hide h4)
    | (go_at_call 101; (with_reducible refine (hgo.out _).mono ?_); rintro e w2 ⟨rfl, m2⟩
       have h5 := m2.heap h4.out (fun h => h)
       replace m2 := hide m2; replace h5 := hide h5)
    | (refine list_put 35 (.tmp 8) (.tmp 30) rfl rfl w.heap.size (rcA 0 0 0 0 false (.slice none 0 0)) rfl rfl zs35 h5.out rfl size35 (rc_one _ _ _ _ _ _ _ _) ?_
       intro w3 h3 m3; replace h3 := hide h3; replace m3 := hide m3))
  have hF' : ¬ F' w.heap.size := fun h => hgF (hN3.out.2.2 _ (by simp) h)
  exact bodyPost_ret (v := okR (.slice none 0 0)) (results_one rfl rfl (load_whole h3.out Tryz.underlying35 rfl size35)) rfl ⟨F', rfl, (hW3.out.mod m2.out (fun _ _ h => h)).mod m3.out (fun j hj e => hF' (e ▸ hj)),
    ((hN.out.trans hN3.out).add (Nat.le_trans hBs (hN.out.trans hN3.out).1.size) m2.out).new hBs m3.out (Nat.le_refl _)⟩
end Go.Proofs.YtjkpelbhhapebaaGreatDoor
