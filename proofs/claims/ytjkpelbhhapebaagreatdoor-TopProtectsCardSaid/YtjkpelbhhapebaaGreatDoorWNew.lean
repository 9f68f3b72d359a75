/-
  name, New, Write, Size, Waits, walked. Conditions: a world in memory of its own; names and pieces of ordinary sizes.
-/
import Derived.Test.YtjkpelbhhapebaaGreatDoorWDoes
namespace Go.Proofs.YtjkpelbhhapebaaGreatDoor.W
open Go.RowKit Go.Maps
set_option maxRecDepth 100000
/-- A call's answer. -/
def er (d : Wd) : Int := if d.fl d.ops then 6 else 0
theorem do_any (B b : Nat) (d : Wd) (N : Nat) (F G : Nat → Prop) (c : Cg) (pv : Value) (w : World) (h : WS B w b d N F) (hN : N < 100000) (hc : OkC c) (hp : Rb w pv c.p G) (hG : ∀ k, G k → ¬ F k ∧ k < w.heap.size ∧ B ≤ k) :
    Calls Tryz.prog 174 #[.pointer (some ⟨b, 0, none⟩), cv c pv] w fun e w' => ∃ F', e = .returned (.int .i64 (er d)) ∧ WS B w' b (did d c) (N + 1) F' ∧ Mod F w w' ∧ ∀ k, k < w.heap.size → F' k → F k ∨ G k := by
  obtain ⟨A, cap, rfl, h0⟩ := hp
  unfold er
  cases hfl : d.fl d.ops with
  | true => exact (do_no B b d N F c _ w h hN ⟨_, _, _, rfl⟩ hfl).mono fun e w' ⟨h1, h2, h3⟩ => ⟨F, h1, h2, h3, fun k _ hk => .inl hk⟩
  | false => exact (do_yes B b d N F G c A cap w h hN hc ⟨A, cap, rfl, h0⟩ hG hfl).mono fun e w' h => h
theorem name_ok (s : ByteArray) (w : World) (h1 : 1 ≤ s.size) (h2 : s.size ≤ 32) : Calls Tryz.prog 149 #[.string s] w fun e w' => e = .returned (.bool true) ∧ w = w' := by
  have d1 : decide (1 ≤ (s.size : Int)) = true := by simp; omega
  have d2 : decide ((s.size : Int) ≤ 32) = true := by simp; omega
  go_enter Tryz.func149, Tryz.ntmps149
  go_wp2_with fail
  go_ret
  exact ⟨rfl, rfl⟩
/-- A new world. -/
def wd0 : Wd := ⟨fun _ => none, fun _ => none, [], 0, fun _ => false⟩
theorem ws_new (w : World) (B : Nat) (hB : B ≤ w.heap.size) :
    WS B (((w.alloc (.map #[] 0)).alloc (.map #[] 0)).alloc (.cells #[.map (some w.heap.size), .map (some (w.heap.size + 1)), .slice none 0 0, .int .i64 0, .map none, .int .i64 (-1), .bool false] 76)) (w.heap.size + 1 + 1) wd0 0
      (fun k => w.heap.size ≤ k ∧ k < w.heap.size + 3) := by
  have s1 : (w.alloc (.map #[] 0)).heap.size = w.heap.size + 1 := by simp
  have s2 : ((w.alloc (.map #[] 0)).alloc (.map #[] 0)).heap.size = w.heap.size + 1 + 1 := by simp
  have m1 : ∀ (a : World) (o : Obj), Mod (fun _ => False) a (a.alloc o) := fun a o => (Mod.refl _ a).alloc o
  have h1 := ((FS.made w (fun _ => False) (fun h => h)).mod (m1 _ (.map #[] 0)) (fun _ h => h.elim) (fun h => h)).mod (m1 _ (.cells #[.map (some w.heap.size), .map (some (w.heap.size + 1)), .slice none 0 0, .int .i64 0, .map none, .int .i64 (-1), .bool false] 76)) (fun _ h => h.elim) (fun h => h)
  have h2 := (FS.made (w.alloc (.map #[] 0)) (fun _ => False) (fun h => h)).mod (m1 _ (.cells #[.map (some w.heap.size), .map (some (w.heap.size + 1)), .slice none 0 0, .int .i64 0, .map none, .int .i64 (-1), .bool false] 76)) (fun _ h => h.elim) (fun h => h)
  rw [s1] at h2
  refine ⟨⟨w.heap.size, w.heap.size + 1, .slice none 0 0, .map none, [], fun _ => False, { bk := ?_, seen := h1, dur := h2, ne := by omega, row := Row.nil _ _ _ _, wts := rfl, byt := fun x hx => (by cases hx), fls := .inl ⟨rfl, fun _ => rfl⟩, nb := fun h => h, nw := fun _ _ h => h, nf := fun k hk => (by cases hk), ok1 := fun s => by simp [wd0], ok2 := fun s => by simp [wd0], okc := fun c hc => (by cases hc), lo := Nat.le_refl _, lw := Nat.le_refl _ }, ?_⟩, ?_, ?_⟩
  · unfold Bk
    rw [← s2]
    exact heap_alloc_new _ _
  · rintro k ((rfl | rfl | rfl | hk | hk) | hk)
    · omega
    · omega
    · omega
    · simp [Value.ownBlock] at hk
    · cases hk
    · exact hk.elim
  · intro k hk
    simp
    omega
  · simp
    omega
theorem new_any (w : World) (B : Nat) (hB : B ≤ w.heap.size) : Calls Tryz.prog 9 #[] w fun e w' => ∃ b F, e = .returned (.pointer (some ⟨b, 0, none⟩)) ∧ WS B w' b wd0 0 F ∧ Mod (fun _ => False) w w' ∧ ∀ k, F k → w.heap.size ≤ k := by
  have hmm := @run_makeMap Tryz.prog
  have hws := hide (ws_new w B hB)
  go_enter Tryz.func9, Tryz.ntmps9
  go_wp2_with fail
  go_ret
  exact ⟨_, _, rfl, hws.out, (((Mod.refl _ w).alloc _).alloc _).alloc _, fun k hk => hk.1⟩
set_option maxHeartbeats 1000000 in
theorem write_some (B b : Nat) (d : Wd) (N : Nat) (F : Nat → Prop) (s : ByteArray) (off : Nat) (A : Option Addr) (m cap : Nat) (l : List Int) (w : World) (h : WS B w b d N F) (hN : N < 100000) (h1 : 1 ≤ s.size) (h2 : s.size ≤ 32)
    (hr : Rd w 1 (ic .u8) A m l) (ho : off + m ≤ 1048576) :
    Calls Tryz.prog 153 #[.pointer (some ⟨b, 0, none⟩), .string s, .int .i64 off, .slice A m cap] w fun e w' => ∃ F', e = .returned (.int .i64 (er d)) ∧
      WS B w' b (did d ⟨119, s, ⟨#[]⟩, off, l⟩) (N + 1) F' ∧ Nxt B F F' w w' := by
  have hname := name_ok s w h1 h2
  have d1 : decide ((off : Int) < 0) = false := by simp
  have d2 : decide ((1048576 : Int) < off) = false := by simp; omega
  have d3 : decide (1048576 - (off : Int) < m) = false := by simp; omega
  have e1 : IntKind.i64.wrap (1048576 - (off : Int)) = 1048576 - (off : Int) := IntWalk.i64_in _ (by omega)
  have hB := h.2.1
  have hBs := h.2.2
  have hlm : l.length = m := hr.1
  replace hr := hide hr
  replace hname := hide hname
  replace h := hide h
  go_enter Tryz.func153, Tryz.ntmps153
  go_wp2_with (first
    | (go_at_call 149; (with_reducible refine hname.out.mono ?_); rintro e w1 ⟨rfl, rfl⟩)
    | (at_builtin; refine list_app (.const (.slice none 0 0)) (.tmp 33) 22 5 _ 1 1 (ic .u8) rfl rfl (ic_len _) (ic_one _) Tryz.underlying22 elem5 (.slice none 0 0) [] A m cap l rfl rfl (Row.nil _ _ _ _) hr.out ?_ ?_ ?_
       (simp [maxLen]; omega)
       (simp; omega)
       intro v1 w1 r1 g1 a1
       rw [List.nil_append] at r1
       have m1 : Mod (fun _ => False) w w1 := (Mod.refl _ w).grown g1 (by simp [Value.ownBlock])
       have hG : ∀ k, v1.ownBlock = some k → ¬ F k ∧ k < w1.heap.size ∧ B ≤ k := fun k hk => (by
         have hlt := r1.lt k hk
         rcases a1 with e | e
         · rw [e] at hk; simp [Value.ownBlock] at hk
         · rw [e] at hk
           simp at hk
           refine ⟨fun hf => ?_, hlt, by omega⟩
           have := (hB k hf).2
           omega)
       have hG2 : ∀ k, k < w.heap.size → ¬ v1.ownBlock = some k := fun k hk e => (by
         rcases a1 with e2 | e2
         · rw [e2] at e; simp [Value.ownBlock] at e
         · rw [e2] at e
           simp at e
           omega)
       have hdo := do_any B b d N F (fun k => v1.ownBlock = some k) ⟨119, s, ⟨#[]⟩, off, l⟩ v1 w1 (h.out.mod m1 (fun _ _ h => h)) hN ⟨.inl rfl, by show off + l.length ≤ _; omega, h2, Nat.zero_le _⟩ (Rb.ofRow r1 fun k hk => hk) hG
       unfold cv at hdo
       obtain ⟨A1, n1, c1, rfl⟩ := r1.form
       replace hdo := hide hdo; replace m1 := hide m1; replace hG := hide hG; replace hG2 := hide hG2; clear r1 g1 a1)
    | (go_at_call 174; (with_reducible refine hdo.out.mono ?_); rintro e w2 ⟨F', rfl, k1, k2, k3⟩; replace k1 := hide k1; replace k2 := hide k2; replace k3 := hide k3))
  go_ret
  have hm := (m1.out.mono (G := F) (fun _ _ h => h.elim)).trans k2.out (fun _ _ h => h)
  exact ⟨F', rfl, k1.out, hm, hm.below hBs fun k hk => (hB k hk).1, fun k hk hf => by
    rcases k3.out k (Nat.lt_of_lt_of_le hk m1.out.size) hf with e | e
    · exact e
    · exact (hG2.out k hk e).elim⟩
end Go.Proofs.YtjkpelbhhapebaaGreatDoor.W
