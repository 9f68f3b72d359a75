/-
  'do', walked: a call counts, and its change is done to what is seen, and waits. Conditions: a world in memory of its own; changes of ordinary sizes.
-/
import Derived.Test.YtjkpelbhhapebaaGreatDoorWDo
import Derived.BigRegion
namespace Go.Proofs.YtjkpelbhhapebaaGreatDoor.W
open Go.RowKit Go.Maps
set_option maxRecDepth 100000
/-- What a call with a change makes of a world. -/
def did (d : Wd) (c : Cg) : Wd := if d.fl d.ops then { d with ops := d.ops + 1 } else { d with seen := ap d.seen c c.p.length, waits := d.waits ++ [c], ops := d.ops + 1 }
set_option maxHeartbeats 4000000 in
theorem do_no (B b : Nat) (d : Wd) (N : Nat) (F : Nat → Prop) (c : Cg) (pv : Value) (w : World) (h : WS B w b d N F) (hN : N < 100000) (hpv : ∃ A m c, pv = .slice A m c) (hfl : d.fl d.ops = true) :
    Calls Tryz.prog 174 #[.pointer (some ⟨b, 0, none⟩), cv c pv] w fun e w' => e = .returned (.int .i64 6) ∧ WS B w' b (did d c) (N + 1) F ∧ Mod F w w' := by
  obtain ⟨⟨sb, db, wv, fv, vs, Fb, hx, hF⟩, hB, hBs⟩ := h
  obtain ⟨k, name, nto, off, p⟩ := c
  obtain ⟨Ap, np, cp, rfl⟩ := hpv
  have ma : Mod (fun _ => False) w (w.alloc (.cells #[.int .u8 k, .string name, .string nto, .int .i64 off, .slice Ap np cp] 119)) := (Mod.refl _ w).alloc _
  have hx1 := hx.mod ma (fun _ _ h => h)
  have hcall := call_some b sb db d.ops N wv fv d.fl _ hx1.bk hx1.fls (by have := hx.lo; omega)
  rw [hfl] at hcall
  simp only [if_true] at hcall
  have hbl := hx.bk.lt
  replace hx := hide hx
  replace hx1 := hide hx1
  replace ma := hide ma
  replace hcall := hide hcall
  unfold cv did
  rw [hfl]
  clear hfl
  go_enter Tryz.func174, Tryz.ntmps174
  go_wp2_with (go_at_call 150; (with_reducible refine hcall.out.mono ?_); rintro e w2 ⟨rfl, q2, m2⟩; replace q2 := hide q2; replace m2 := hide m2)
  go_ret
  have hm := (ma.out.mono (G := F) (fun _ _ h => h.elim)).trans m2.out (fun i _ e => e ▸ hF b (.inl (.inl rfl)))
  exact ⟨rfl, ⟨⟨sb, db, wv, fv, vs, Fb, hx1.out.tick q2.out m2.out, hF⟩, fun k hk => ⟨(hB k hk).1, Nat.lt_of_lt_of_le (hB k hk).2 hm.size⟩, Nat.le_trans hBs hm.size⟩, hm⟩
/-- What has been seen after a change, with the waiting changes. -/
theorem WX.did {B : Nat} {w w1 w2 w3 w4 : World} {b N sb db : Nat} {d : Wd} {wv fv wv4 : Value} {vs : List Wt} {F Fb G : Nat → Prop} (c : Cg) (A : Option Addr) (cap : Nat) (h : WX w b d N sb db wv fv vs Fb) (hF : ∀ k, Ct b sb db wv fv k ∨ Fb k → F k) (hB : ∀ k, F k → B ≤ k ∧ k < w.heap.size) (hBs : B ≤ w.heap.size)
    (hc : OkC c) (hp : Rb w (.slice A c.p.length cap) c.p G) (hG : ∀ k, G k → ¬ F k ∧ k < w.heap.size ∧ B ≤ k)
    (m1 : Mod (fun _ => False) w w1) (q2 : Bk w2 b sb db wv fv (d.ops + 1)) (m2 : Mod (fun k => k = b) w1 w2)
    (f3 : FS w3 sb (N + 1) (ap d.seen c c.p.length) (fun k => Fb k ∨ (w2.heap.size ≤ k ∧ k < w3.heap.size))) (m3 : Mod (fun k => k = sb) w2 w3)
    (r4 : Row w4 119 5 encC wv4 (vs ++ [(c, A, cap)])) (m4 : Mod (fun k => wv.ownBlock = some k) w3 w4) (o4 : ∀ k, wv4.ownBlock = some k → wv.ownBlock = some k ∨ w3.heap.size ≤ k) :
    ∃ F', WS B (w4.setCell ⟨b, 2, none⟩ wv4) b { d with seen := ap d.seen c c.p.length, waits := d.waits ++ [c], ops := d.ops + 1 } (N + 1) F' ∧ Mod F w (w4.setCell ⟨b, 2, none⟩ wv4) ∧ ∀ k, k < w.heap.size → F' k → F k ∨ G k := by
  obtain ⟨n1, n2, n3, n4, n5, n6, n7⟩ := h.parts
  have hx2 := (h.mod m1 (fun _ _ h => h)).tick q2 m2
  have s1 := m1.size
  have s2 := m2.size
  have s3 := m3.size
  have s4 := m4.size
  have hset := mod_set w4 b 2 wv4
  have s5 := hset.size
  have q3 := q2.mod m3 n1
  have q4 := q3.mod m4 n3
  have q5 := q4.s2 wv4
  have nd3 : ∀ k, Fb k → ¬ k = sb := fun k hk e => n6 (e ▸ hk)
  have nd4 : ∀ k, Fb k → ¬ wv.ownBlock = some k := fun k hk e => h.nw k e hk
  have nd5 : ∀ k, Fb k → ¬ k = b := fun k hk e => h.nb (e ▸ hk)
  have ng : ∀ k, G k → ¬ k = sb ∧ ¬ wv.ownBlock = some k ∧ ¬ k = b := fun k hk => ⟨fun e => (hG k hk).1 (e ▸ hF sb (.inl (.inr (.inl rfl)))), fun e => (hG k hk).1 (hF k (.inl (.inr (.inr (.inr (.inl e)))))), fun e => (hG k hk).1 (e ▸ hF b (.inl (.inl rfl)))⟩
  have hwl : ∀ k, wv.ownBlock = some k → k < w.heap.size := h.row.lt
  -- the new bytes' blocks
  have hD4 : ∀ k, (Fb k ∨ (w2.heap.size ≤ k ∧ k < w3.heap.size)) → ¬ wv.ownBlock = some k := fun k hk e => by
    rcases hk with hk | hk
    · exact nd4 k hk e
    · have := hwl k e; omega
  have hD5 : ∀ k, (Fb k ∨ (w2.heap.size ≤ k ∧ k < w3.heap.size)) → ¬ k = b := fun k hk e => by
    rcases hk with hk | hk
    · exact nd5 k hk e
    · have := h.bk.lt; omega
  have seen5 := (f3.mod m4 hD4 (fun e => (n5 sb e).1 rfl)).mod hset hD5 (fun e => n1 e.symm)
  have dur5 := (((hx2.dur.mod m3 nd3 (fun e => h.ne e.symm)).mod m4 nd4 (fun e => (n5 db e).2.1 rfl)).mod hset nd5 (fun e => n2 e.symm))
  have row5 := r4.mod hset (fun k hk e => by
    subst e
    rcases o4 _ hk with e | e
    · exact n3 e
    · have := h.bk.lt; omega)
  have hp5 := (((hp.mod m1 (fun _ _ h => h)).mod m2 (fun k hk => (ng k hk).2.2)).mod m3 (fun k hk => (ng k hk).1)).mod m4 (fun k hk => (ng k hk).2.1)
  have hp6 := hp5.mod hset (fun k hk => (ng k hk).2.2)
  have fl5 := ((hx2.fls.mod m3 (fun k hk e => (h.nf k hk).2.1 e)).mod m4 (fun k hk e => (n5 k e).2.2 hk)).mod hset (fun k hk e => n4 (e ▸ hk))
  have hFb : ∀ k, (Fb k ∨ G k ∨ (w2.heap.size ≤ k ∧ k < w3.heap.size)) → Fb k ∨ G k ∨ (w.heap.size ≤ k ∧ k < w3.heap.size) := fun k hk => by
    rcases hk with hk | hk | hk
    · exact .inl hk
    · exact .inr (.inl hk)
    · exact .inr (.inr ⟨by omega, hk.2⟩)
  have hnew : ∀ k, k < w.heap.size → Ct b sb db wv fv k → ¬ (Fb k ∨ G k ∨ (w2.heap.size ≤ k ∧ k < w3.heap.size)) := fun k hk hct hh => by
    rcases hh with hh | hh | hh
    · exact (h.ct k hct).2 hh
    · exact (hG k hh).1 (hF k (.inl hct))
    · omega
  have hmF : Mod F w (w4.setCell ⟨b, 2, none⟩ wv4) := ((((m1.mono (G := F) (fun _ _ h => h.elim)).trans m2 (fun i _ e => e ▸ hF b (.inl (.inl rfl)))).trans m3 (fun i _ e => e ▸ hF sb (.inl (.inr (.inl rfl))))).trans m4 (fun i _ e => hF i (.inl (.inr (.inr (.inr (.inl e))))))).trans hset (fun i _ e => e ▸ hF b (.inl (.inl rfl)))
  refine ⟨fun k => F k ∨ G k ∨ (w.heap.size ≤ k ∧ k < (w4.setCell ⟨b, 2, none⟩ wv4).heap.size), ⟨⟨sb, db, wv4, fv, vs ++ [(c, A, cap)], fun k => Fb k ∨ G k ∨ (w2.heap.size ≤ k ∧ k < w3.heap.size), ?_, ?_⟩, ?_, ?_⟩, hmF, ?_⟩
  · refine { bk := q5, seen := seen5.mono ?_ ?_, dur := dur5.mono ?_ ?_, ne := h.ne, row := row5, wts := ?_, byt := ?_, fls := fl5, nb := ?_, nw := ?_, nf := ?_, ok1 := h.ok1.ap c hc _, ok2 := h.ok2, okc := ?_, lo := hx2.lo, lw := ?_ }
    · rintro k (hk | hk)
      · exact .inl hk
      · exact .inr (.inr hk)
    · exact hnew sb h.seen.lt (.inr (.inl rfl))
    · exact fun k hk => .inl hk
    · exact hnew db h.dur.lt (.inr (.inr (.inl rfl)))
    · simp [h.wts]
    · intro x hx
      rcases List.mem_append.1 hx with hx | hx
      · exact ((((hx2.byt x hx).mod m3 nd3).mod m4 nd4).mod hset nd5).mono fun k hk => .inl hk
      · simp at hx
        subst hx
        exact hp6.mono fun k hk => .inr (.inl hk)
    · exact hnew b h.bk.lt (.inl rfl)
    · intro k hk
      rcases o4 k hk with e | e
      · exact hnew k (hwl k e) (.inr (.inr (.inr (.inl e))))
      · rintro (hh | hh | hh)
        · have := (hB k (hF k (.inr hh))).2; omega
        · have := (hG k hh).2.1; omega
        · omega
    · intro k hk
      exact ⟨hnew k (h.fls.lt k hk) (.inr (.inr (.inr (.inr hk)))), (h.nf k hk).2⟩
    · intro x hx
      rcases List.mem_append.1 hx with hx | hx
      · exact h.okc x hx
      · simp at hx
        subst hx
        exact hc
    · have := h.lw
      simp
      omega
  · rintro k ((rfl | rfl | rfl | hk | hk) | hk)
    · exact .inl (hF _ (.inl (.inl rfl)))
    · exact .inl (hF _ (.inl (.inr (.inl rfl))))
    · exact .inl (hF _ (.inl (.inr (.inr (.inl rfl)))))
    · have hl := row5.lt k hk
      rcases o4 k hk with e | e
      · exact .inl (hF _ (.inl (.inr (.inr (.inr (.inl e))))))
      · exact .inr (.inr ⟨by omega, hl⟩)
    · exact .inl (hF _ (.inl (.inr (.inr (.inr (.inr hk))))))
    · rcases hk with hk | hk | hk
      · exact .inl (hF _ (.inr hk))
      · exact .inr (.inl hk)
      · exact .inr (.inr ⟨by omega, by omega⟩)
  · intro k hk
    rcases hk with hk | hk | hk
    · exact ⟨(hB k hk).1, Nat.lt_of_lt_of_le (hB k hk).2 hmF.size⟩
    · exact ⟨(hG k hk).2.2, Nat.lt_of_lt_of_le (hG k hk).2.1 hmF.size⟩
    · exact ⟨by omega, hk.2⟩
  · omega
  · intro k hk hh
    rcases hh with hh | hh | hh
    · exact .inl hh
    · exact .inr hh
    · omega
set_option maxHeartbeats 4000000 in
theorem do_yes (B b : Nat) (d : Wd) (N : Nat) (F G : Nat → Prop) (c : Cg) (A : Option Addr) (cap : Nat) (w : World) (h : WS B w b d N F) (hN : N < 100000) (hc : OkC c) (hp : Rb w (.slice A c.p.length cap) c.p G) (hG : ∀ k, G k → ¬ F k ∧ k < w.heap.size ∧ B ≤ k) (hfl : d.fl d.ops = false) :
    Calls Tryz.prog 174 #[.pointer (some ⟨b, 0, none⟩), cv c (.slice A c.p.length cap)] w fun e w' => ∃ F', e = .returned (.int .i64 0) ∧ WS B w' b (did d c) (N + 1) F' ∧ Mod F w w' ∧ ∀ k, k < w.heap.size → F' k → F k ∨ G k := by
  obtain ⟨⟨sb, db, wv, fv, vs, Fb, hx, hF⟩, hB, hBs⟩ := h
  obtain ⟨np, hnp⟩ : ∃ np, np = c.p.length := ⟨_, rfl⟩
  obtain ⟨n1, n2, n3, n4, n5, n6, n7⟩ := hx.parts
  have ma : Mod (fun _ => False) w (w.alloc (.cells #[.int .u8 c.k, .string c.name, .string c.nto, .int .i64 c.off, .slice A np cap] 119)) := (Mod.refl _ w).alloc _
  have hx1 := hx.mod ma (fun _ _ h => h)
  have hcall := call_some b sb db d.ops N wv fv d.fl _ hx1.bk hx1.fls (by have := hx.lo; omega)
  rw [hfl] at hcall
  simp only [Bool.false_eq_true, if_false] at hcall
  have hbl := hx.bk.lt
  have hdid : YtjkpelbhhapebaaGreatDoor.W.did d c = { d with seen := ap d.seen c c.p.length, waits := d.waits ++ [c], ops := d.ops + 1 } := by unfold YtjkpelbhhapebaaGreatDoor.W.did; rw [hfl]; rfl
  rw [hdid]
  have hbox : (w.alloc (.cells #[.int .u8 c.k, .string c.name, .string c.nto, .int .i64 c.off, .slice A np cap] 119)).heap[w.heap.size]? = some (.cells #[.int .u8 c.k, .string c.name, .string c.nto, .int .i64 c.off, .slice A np cap] 119) := heap_alloc_new _ _
  have hvs : vs.length ≤ N := by have := hx.lw; rw [← hx.wts] at this; simpa using this
  obtain ⟨Aw, cw, hwv, -, -⟩ := hx.row.slice
  replace hx := hide hx
  replace hx1 := hide hx1
  replace ma := hide ma
  replace hcall := hide hcall
  replace hbox := hide hbox
  replace hp := hide hp
  clear hfl hdid
  unfold cv
  rw [← hnp]
  replace hnp := hide hnp
  subst hwv
  have hpl : c.p.length ≤ 1048576 := by have := hc.2.1; omega
  go_enter Tryz.func174, Tryz.ntmps174
  go_wp2_with (go_at_call 150; (with_reducible refine hcall.out.mono ?_); (
               rintro e w2 ⟨rfl, q2, m2⟩
               have hx2 := hide (hx1.out.tick q2 m2)
               have hb2 := m2.heap hbox.out (by omega)
               have b0 : w2.cell? ⟨w.heap.size, 0, none⟩ = some (.int .u8 c.k) := by rw [cell_of_row w2 _ 0 _ 119 (0, 0) hb2]; rfl
               have b1 : w2.cell? ⟨w.heap.size, 1, none⟩ = some (.string c.name) := by rw [cell_of_row w2 _ 1 _ 119 (0, 0) hb2]; rfl
               have b2 : w2.cell? ⟨w.heap.size, 2, none⟩ = some (.string c.nto) := by rw [cell_of_row w2 _ 2 _ 119 (0, 0) hb2]; rfl
               have b3 : w2.cell? ⟨w.heap.size, 3, none⟩ = some (.int .i64 c.off) := by rw [cell_of_row w2 _ 3 _ 119 (0, 0) hb2]; rfl
               have b4 : w2.cell? ⟨w.heap.size, 4, none⟩ = some (.slice A np cap) := by rw [cell_of_row w2 _ 4 _ 119 (0, 0) hb2]; rfl
               have c0 := q2.c0
               have hbl2 := q2.lt
               have hkl2 : w.heap.size < w2.heap.size := by have := m2.size; rw [World.size_alloc] at this; omega
               have hp2 : Rb w2.drew (.slice A np cap) c.p G := by rw [hnp.out]; exact ((hp.out.mod ma.out (fun _ _ h => h)).mod m2 (fun k hk e => (hG k hk).1 (e ▸ hF b (.inl (.inl rfl))))).mod (Mod.drew (Mod.refl (fun _ => False) w2)) (fun _ _ h => h)
               have hc2 : Calls Tryz.prog 31 #[.map (some sb), .agg #[.int .u8 c.k, .string c.name, .string c.nto, .int .i64 c.off, .slice A np cap], .int .i64 np] w2.drew fun e w' => e = .returned (.tuple #[]) ∧ FS w' sb (N + 1) (ap d.seen c np) (fun k => Fb k ∨ (w2.drew.heap.size ≤ k ∧ k < w'.heap.size)) ∧ Mod (fun k => k = sb) w2.drew w' :=
                 apply_any sb N d.seen Fb G c np (.slice A np cap) w2.drew ((hx1.out.seen.mod m2 (fun k hk e => hx1.out.nb (e ▸ hk)) (fun e => n1 e.symm)).mod (Mod.drew (Mod.refl (fun _ => False) w2)) (fun _ _ h => h) (fun h => h)) (by omega) hc hx1.out.ok1 hp2 (by rw [hnp.out]; exact hpl)
               replace q2 := hide q2; replace m2 := hide m2; replace hb2 := hide hb2; replace hc2 := hide hc2; replace hp2 := hide hp2))
  go_region_with (go_at_call 31; (with_reducible refine hc2.out.mono ?_); rintro e w3 ⟨rfl, f3, m3⟩
                  replace m3 := (Mod.drew (Mod.refl (fun k => k = sb) w2)).trans m3 (fun _ _ h => h)
                  have q3 := q2.out.mod m3 n1
                  have d2 := q3.c2
                  have e2 := q3.fr 2
                  have hb3 := m3.heap hb2.out (by have := hx.out.seen.lt; omega)
                  have a0 : w3.cell? ⟨w.heap.size, 0, none⟩ = some (.int .u8 c.k) := by rw [cell_of_row w3 _ 0 _ 119 (0, 0) hb3]; rfl
                  have a1 : w3.cell? ⟨w.heap.size, 1, none⟩ = some (.string c.name) := by rw [cell_of_row w3 _ 1 _ 119 (0, 0) hb3]; rfl
                  have a2 : w3.cell? ⟨w.heap.size, 2, none⟩ = some (.string c.nto) := by rw [cell_of_row w3 _ 2 _ 119 (0, 0) hb3]; rfl
                  have a3 : w3.cell? ⟨w.heap.size, 3, none⟩ = some (.int .i64 c.off) := by rw [cell_of_row w3 _ 3 _ 119 (0, 0) hb3]; rfl
                  have a4 : w3.cell? ⟨w.heap.size, 4, none⟩ = some (.slice A np cap) := by rw [cell_of_row w3 _ 4 _ 119 (0, 0) hb3]; rfl
                  have hbl3 := q3.lt
                  have hkl3 : w.heap.size < w3.heap.size := (Array.getElem?_eq_some_iff.1 hb3).1
                  have d3 : (w3.alloc (.cells #[.int .u8 c.k, .string c.name, .string c.nto, .int .i64 c.off, .slice A np cap] 119)).cell? ⟨b, 2, none⟩ = some (.slice Aw vs.length cw) := by rw [World.cell?_alloc_lt _ _ _ hbl3]; exact d2
                  have r3 : Row w3 119 5 encC (.slice Aw vs.length cw) vs := ((hx2.out.row.mod m3 (fun k hk e => (n5 k hk).1 e)))
                  have r9 : Row (w3.alloc (.cells #[.int .u8 c.k, .string c.name, .string c.nto, .int .i64 c.off, .slice A np cap] 119)).drew 119 5 encC (.slice Aw vs.length cw) vs ∧
                      Rd (w3.alloc (.cells #[.int .u8 c.k, .string c.name, .string c.nto, .int .i64 c.off, .slice A np cap] 119)).drew 5 encC (some ⟨w3.heap.size, 0, none⟩) 1 [(c, A, cap)] := ⟨r3.alloc _, by rw [hnp.out]; exact Rd.box w3 encC (c, A, cap) 119⟩
                  replace r9 := hide r9; replace r3 := hide r3; replace q3 := hide q3; replace hb3 := hide hb3
                  clear b0 b1 b2 b3 b4 c0
                  replace f3 := hide f3; replace m3 := hide m3)
  all_goals
    go_wp2_with fail
    go_region_law (first
      | (refine step_app (.tmp 24) (.tmp 26) 73 119 _ 5 72 encC rfl rfl encC_len encC_one Tryz.underlying73 elem54 (.slice Aw vs.length cw) vs (some ⟨w3.heap.size, 0, none⟩) 1 1 [(c, A, cap)] ?_ ?_ r9.out.1 r9.out.2 ?_ ?_ ?_
         (simp [Act.eval])
         (simp [Act.eval])
         (simp [maxLen]; omega)
         (omega)
         intro v4 w4 r4 g4 o4
         have m4 : Mod (fun k => (Value.slice Aw vs.length cw).ownBlock = some k) w3 w4 := (((Mod.refl _ w3).alloc _).drew).grown g4 (fun k hk => .inl hk)
         have q4 := q3.out.mod m4 n3
         have c24 := q4.c2
         have e24 := q4.fr 2
         have hbl4 := q4.lt
         obtain ⟨A4, n4', c4, rfl⟩ := r4.form
         replace q4 := hide q4; replace m4 := hide m4; replace r4 := hide r4; replace o4 := hide o4; replace g4 := hide g4))
    all_goals
      go_wp2_with fail
      go_ret
      obtain ⟨F', k1, k2, k3⟩ := WX.did c A cap hx.out hF hB hBs hc hp.out hG ma.out q2.out m2.out (by rw [← hnp.out]; exact f3.out) m3.out r4.out m4.out (fun k hk => by
        rcases o4.out with e | e <;> rw [e] at hk
        · exact .inl hk
        · simp at hk
          right; omega)
      exact ⟨F', rfl, by rw [hnp.out]; exact k1, k2, k3⟩
end Go.Proofs.YtjkpelbhhapebaaGreatDoor.W
