/-
  Sync, walked. Conditions: a world in memory of its own; this call doesn't fail.
-/
import Derived.Test.YtjkpelbhhapebaaGreatDoorWRead
namespace Go.Proofs.YtjkpelbhhapebaaGreatDoor.W
open Go.RowKit Go.Maps
set_option maxRecDepth 100000
/-- All changes done to files. -/
def apAll (f : ByteArray → Option (List Int)) (l : List Cg) : ByteArray → Option (List Int) := l.foldl (fun f c => ap f c c.p.length) f
theorem apAll_snoc (f : ByteArray → Option (List Int)) (l : List Cg) (c : Cg) : apAll f (l ++ [c]) = ap (apAll f l) c c.p.length := by simp [apAll, List.foldl_append]
theorem Ok1.all {f : ByteArray → Option (List Int)} (h : Ok1 f) (l : List Cg) (hl : ∀ c ∈ l, OkC c) : Ok1 (apAll f l) := by
  induction l generalizing f with
  | nil => exact h
  | cons c l ih => exact ih (h.ap c (hl c (by simp)) _) fun x hx => hl x (by simp [hx])
/-- The world after Sync. -/
def synced (d : Wd) : Wd := { d with dur := apAll d.dur d.waits, waits := [], ops := d.ops + 1 }
theorem synced_fl (d : Wd) : (synced d).fl = d.fl := rfl
/-- In the loop: i changes have been done. -/
def SyI (w wr : World) (db N : Nat) (d : Wd) (Fb : Nat → Prop) (i : Nat) : Prop :=
  FS wr db (N + i) (apAll d.dur (d.waits.take i)) (fun k => Fb k ∨ (w.heap.size ≤ k ∧ k < wr.heap.size)) ∧ Mod (fun k => k = db) w wr
theorem SyI.start {w : World} {db N : Nat} {d : Wd} {Fb : Nat → Prop} (h : FS w db N d.dur Fb) : SyI w w db N d Fb 0 :=
  ⟨h.mono (fun k hk => .inl hk) (by
    rintro (e | e)
    · obtain ⟨_, _, q, _⟩ := h; exact q e
    · have := h.lt; omega), Mod.refl _ _⟩
theorem SyI.step {w wr w2 w3 : World} {db N i : Nat} {d : Wd} {Fb : Nat → Prop} {c : Cg} (h : SyI w wr db N d Fb i) (hlt : db < w.heap.size) (hc : d.waits[i]? = some c) (m2 : Mod (fun _ => False) wr w2)
    (f3 : FS w3 db (N + i + 1) (ap (apAll d.dur (d.waits.take i)) c c.p.length) (fun k => (Fb k ∨ (w.heap.size ≤ k ∧ k < wr.heap.size)) ∨ (w2.heap.size ≤ k ∧ k < w3.heap.size))) (m3 : Mod (fun k => k = db) w2 w3) : SyI w w3 db N d Fb (i + 1) := by
  obtain ⟨h1, h2⟩ := h
  have hil : i < d.waits.length := (List.getElem?_eq_some_iff.1 hc).1
  have e1 : d.waits.take (i + 1) = d.waits.take i ++ [c] := by
    rw [List.take_add_one, hc]; rfl
  have s1 := h2.size
  have s2 := m2.size
  have s3 := m3.size
  refine ⟨?_, (h2.trans m2 (fun _ _ h => h.elim)).trans m3 (fun _ _ h => h)⟩
  rw [e1, apAll_snoc]
  obtain ⟨_, _, q, _⟩ := id f3
  refine f3.mono ?_ ?_
  · rintro k ((hk | hk) | hk)
    · exact .inl hk
    · exact .inr ⟨hk.1, by omega⟩
    · exact .inr ⟨by omega, hk.2⟩
  · rintro (hk | hk)
    · exact q (.inl (.inl hk))
    · omega
/-- The waiting changes read at i, whatever the loop has turned. -/
theorem SyI.read {w wr : World} {db N i : Nat} {d : Wd} {wv : Value} {vs : List Wt} {Fb : Nat → Prop} (h : SyI w wr db N d Fb i) (hr : Row w 119 5 encC wv vs) (hd : wv.ownBlock ≠ some db) : Row wr 119 5 encC wv vs := hr.mod h.2 fun _ hk e => hd (e ▸ hk)
theorem _root_.Go.Proofs.YtjkpelbhhapebaaGreatDoor.Rd.elem {w : World} {A : Option Addr} {n : Nat} {vs : List Wt} (h : Rd w 5 encC A n vs) (i : Nat) (hi : i < n) : ∃ ad, A = some ad ∧ ∀ j u, (encC (gi vs i))[j]? = some u → w.cell? ((ad.add (i * 5)).add j) = some u := by
  obtain ⟨ad, e, hc⟩ := h.2 i hi
  exact ⟨ad, e, fun j u hu => by rw [addr_add]; exact hc j u hu⟩
theorem size54 : (Tryz.prog.info? 119).map (·.size) = some 5 := by kernel_rfl
/-- All has been done, nothing waits. -/
theorem WX.synced {B : Nat} {w wr : World} {b N sb db : Nat} {d : Wd} {wv fv : Value} {vs : List Wt} {F Fb : Nat → Prop} (h : WX w b d N sb db wv fv vs Fb) (hF : ∀ k, Ct b sb db wv fv k ∨ Fb k → F k) (hB : ∀ k, F k → B ≤ k ∧ k < w.heap.size) (hBs : B ≤ w.heap.size)
    (hs : SyI w wr db N d Fb d.waits.length) : ∃ F', WS B (wr.setCell ⟨b, 2, none⟩ (.slice none 0 0)) b { d with dur := apAll d.dur d.waits, waits := [] } (N + d.waits.length) F' ∧ Nxt B F F' w (wr.setCell ⟨b, 2, none⟩ (.slice none 0 0)) := by
  obtain ⟨n1, n2, n3, n4, n5, n6, n7⟩ := h.parts
  obtain ⟨hs1, hs2⟩ := hs
  rw [List.take_length] at hs1
  have hset := mod_set wr b 2 (.slice none 0 0)
  have s2 := hs2.size
  have s3 := hset.size
  have nd : ∀ k, Fb k → ¬ k = db := fun k hk e => n7 (e ▸ hk)
  have nb : ∀ k, Fb k → ¬ k = b := fun k hk e => h.nb (e ▸ hk)
  have hmF : Mod F w (wr.setCell ⟨b, 2, none⟩ (.slice none 0 0)) := (hs2.mono (G := F) fun i _ e => e ▸ hF db (.inl (.inr (.inr (.inl rfl))))).trans hset fun i _ e => e ▸ hF b (.inl (.inl rfl))
  have hnew : ∀ k, k < w.heap.size → Ct b sb db wv fv k → ¬ (Fb k ∨ (w.heap.size ≤ k ∧ k < wr.heap.size)) := fun k hk hct hh => by
    rcases hh with hh | hh
    · exact (h.ct k hct).2 hh
    · omega
  refine ⟨fun k => F k ∨ (w.heap.size ≤ k ∧ k < (wr.setCell ⟨b, 2, none⟩ (.slice none 0 0)).heap.size), ⟨⟨sb, db, .slice none 0 0, fv, [], fun k => Fb k ∨ (w.heap.size ≤ k ∧ k < wr.heap.size), ?_, ?_⟩, ?_, ?_⟩, hmF, hmF.below hBs fun k hk => (hB k hk).1, ?_⟩
  · refine { bk := (h.bk.mod hs2 n2).s2 _, seen := ?_, dur := hs1.mod hset ?_ (fun e => n2 e.symm), ne := h.ne, row := Row.nil _ _ _ _, wts := rfl, byt := fun x hx => (by cases hx), fls := ?_, nb := ?_, nw := ?_, nf := ?_, ok1 := h.ok1, ok2 := h.ok2.all _ h.okc, okc := fun c hc => (by cases hc), lo := Nat.le_trans h.lo (Nat.le_add_right _ _), lw := Nat.zero_le _ }
    · exact (((h.seen.mod hs2 nd h.ne).mod hset nb (fun e => n1 e.symm)).mono (fun k hk => .inl hk) (hnew sb h.seen.lt (.inr (.inl rfl)))).le (Nat.le_add_right _ _)
    · rintro k (hk | hk) e
      · exact nb k hk e
      · have := h.bk.lt; omega
    · exact ((h.fls.mod hs2 fun k hk e => (h.nf k hk).2.2 e).mod hset fun k hk e => n4 (e ▸ hk)).mono (Nat.le_add_right _ _)
    · exact hnew b h.bk.lt (.inl rfl)
    · intro k hk; simp [Value.ownBlock] at hk
    · intro k hk
      exact ⟨hnew k (h.fls.lt k hk) (.inr (.inr (.inr (.inr hk)))), (h.nf k hk).2⟩
  · rintro k ((rfl | rfl | rfl | hk | hk) | hk)
    · exact .inl (hF _ (.inl (.inl rfl)))
    · exact .inl (hF _ (.inl (.inr (.inl rfl))))
    · exact .inl (hF _ (.inl (.inr (.inr (.inl rfl)))))
    · simp [Value.ownBlock] at hk
    · exact .inl (hF _ (.inl (.inr (.inr (.inr (.inr hk))))))
    · rcases hk with hk | hk
      · exact .inl (hF _ (.inr hk))
      · exact .inr ⟨hk.1, by omega⟩
  · intro k hk
    rcases hk with hk | hk
    · exact ⟨(hB k hk).1, Nat.lt_of_lt_of_le (hB k hk).2 hmF.size⟩
    · exact ⟨by omega, hk.2⟩
  · omega
  · intro k hk hh
    rcases hh with hh | hh
    · exact hh
    · omega
set_option maxHeartbeats 4000000 in
theorem sync_some (B b : Nat) (d : Wd) (N : Nat) (F : Nat → Prop) (w : World) (h : WS B w b d N F) (hN : N < 100000) (hfl : d.fl d.ops = false) :
    Calls Tryz.prog 142 #[.pointer (some ⟨b, 0, none⟩)] w fun e w' => ∃ F', e = .returned (.int .i64 0) ∧ WS B w' b (synced d) (N + 1 + d.waits.length) F' ∧ Nxt B F F' w w' := by
  have hBs := h.2.2
  have hB := h.2.1
  obtain ⟨⟨sb, db, wv, fv, vs, Fb, hx, hF⟩, -, -⟩ := h
  have hcall := call_some b sb db d.ops N wv fv d.fl w hx.bk hx.fls (by have := hx.lo; omega)
  rw [hfl] at hcall
  simp only [Bool.false_eq_true, if_false] at hcall
  have hb := hx.bk.lt
  obtain ⟨n1, n2, n3, n4, n5, n6, n7⟩ := hx.parts
  obtain ⟨len, hlen⟩ : ∃ len, len = vs.length := ⟨_, rfl⟩
  obtain ⟨Aw, cw, hwv, hcw1, -⟩ := hx.row.slice
  rw [← hlen] at hwv hcw1
  have hlw : len = d.waits.length := by rw [hlen, ← hx.wts]; simp
  have hlN : len ≤ N := by rw [hlw]; exact hx.lw
  subst hwv
  replace hlen := hide hlen
  replace hlw := hide hlw
  replace hx := hide hx
  replace hcall := hide hcall
  replace hF := hide hF
  replace hB := hide hB
  go_enter Tryz.func142, Tryz.ntmps142
  go_wp2_with (go_at_call 150; (with_reducible refine hcall.out.mono ?_); rintro e w1 ⟨rfl, q1, m1⟩
               have c2 := q1.c2
               have hx1 := hide (hx.out.tick q1 m1)
               replace q1 := hide q1; replace m1 := hide m1)
  clear c2
  have hb1 := hx1.out.bk.lt
  have hP := hide (SyI.start (d := tick d) hx1.out.dur)
  go_loopw [18] (fun u wr => ∃ k : Nat, k ≤ len ∧ u = .int .i64 k ∧ Hid (SyI w1 wr db (N + 1) (tick d) Fb k)) (fun u _ => len - (intOf u).toNat)
  case atStart => exact ⟨0, by omega, rfl, hP⟩
  case round =>
    obtain ⟨k, hk, rfl, hR⟩ := hrel
    clear hP
    by_cases hlt : k < len
    · have hrow := hR.out.read hx1.out.row (fun e => (n5 db e).2.1 rfl)
      obtain ⟨ad, rfl, hc4⟩ := Rd.elem (hrow.rd encC_len rfl) k hlt
      have hkv : k < vs.length := by rw [← hlen.out]; exact hlt
      obtain ⟨⟨c, pa, pc⟩, hxk⟩ : ∃ x, x = gi vs k := ⟨_, rfl⟩
      rw [← hxk] at hc4
      have hmem : (c, pa, pc) ∈ vs := by rw [hxk, gi_eq vs k hkv]; exact List.getElem_mem _
      have hwk : d.waits[k]? = some c := by
        rw [← hx.out.wts, List.getElem?_map, List.getElem?_eq_getElem hkv, ← gi_eq vs k hkv, ← hxk]
        rfl
      have hcm : c ∈ d.waits := List.mem_of_getElem? hwk
      have hbyt := hx1.out.byt _ hmem
      obtain ⟨np, hnp⟩ : ∃ np, np = c.p.length := ⟨_, rfl⟩
      simp only [sv] at hbyt
      have hc4' : ∀ j u, ([.int .u8 c.k, .string c.name, .string c.nto, .int .i64 c.off, .slice pa np pc] : List Value)[j]? = some u → wr.cell? ((ad.add (k * 5)).add j) = some u := by rw [hnp]; exact hc4
      have hokc := hx.out.okc c hcm
      have hbyt2 : Rb wr (.slice pa np pc) c.p Fb := by rw [hnp]; exact hbyt.mod hR.out.2 (fun j hj e => n7 (e ▸ hj))
      have hm2 : Mod (fun _ => False) wr (wr.alloc (.cells #[.int .u8 c.k, .string c.name, .string c.nto, .int .i64 c.off, .slice pa np pc] 119)) := (Mod.refl _ wr).alloc _
      have hq1 := hx1.out.bk.mod (hR.out.2.trans hm2 (fun _ _ h => h.elim)) n2
      have b1 := hq1.c1
      have hbs := hq1.lt
      have hbx : ∀ j, (wr.alloc (.cells #[.int .u8 c.k, .string c.name, .string c.nto, .int .i64 c.off, .slice pa np pc] 119)).cell? ⟨wr.heap.size, j, none⟩ = (#[.int .u8 c.k, .string c.name, .string c.nto, .int .i64 c.off, .slice pa np pc] : Array Value)[j]? := fun j => World.cell?_alloc_new _ _ _ _
      have x0 := hbx 0; have x1 := hbx 1; have x2 := hbx 2; have x3 := hbx 3; have x4 := hbx 4
      have hm3 := Mod.drew hm2
      have hc2 : Calls Tryz.prog 31 #[.map (some db), .agg #[.int .u8 c.k, .string c.name, .string c.nto, .int .i64 c.off, .slice pa np pc], .int .i64 np] (wr.alloc (.cells #[.int .u8 c.k, .string c.name, .string c.nto, .int .i64 c.off, .slice pa np pc] 119)).drew fun e w' => e = .returned (.tuple #[]) ∧ Hid (SyI w1 w' db (N + 1) (tick d) Fb (k + 1)) :=
        (apply_any db (N + 1 + k) _ _ Fb c np (.slice pa np pc) _ (hR.out.1.mod hm3 (fun _ _ h => h) (fun h => h)) (by omega) hokc (hx.out.ok2.all _ fun y hy => hx.out.okc y (List.mem_of_mem_take hy)) (hbyt2.mod hm3 (fun _ _ h => h)) (by have := hokc.2.1; omega)).mono fun e w' ⟨h1, h2, h3⟩ => ⟨h1, hide (hR.out.step hx1.out.dur.lt hwk hm3 (by rw [← hnp]; exact h2) h3)⟩
      replace hc4' := hide hc4'
      replace hc2 := hide hc2
      clear hc4 hbyt hbyt2 hrow hwk hcm hmem hq1 hm2 hm3 hbx hxk
      replace hnp := hide hnp
      go_wp2_with (first
        | (refine list_load 119 (.tmp 20) rfl rfl _ Tryz.underlying119 rfl (ad.add (k * 5)) [.int .u8 c.k, .string c.name, .string c.nto, .int .i64 c.off, .slice pa np pc] size54 rfl hc4'.out ?_))
      go_region_with (go_at_call 31; (with_reducible refine hc2.out.mono ?_); rintro e w3 ⟨rfl, h3⟩)
      all_goals
        go_wp2_with fail
        go_roundw
        case rel => exact ⟨k + 1, by omega, by go_num, h3⟩
        case measure => simp [intOf]; omega
    · obtain rfl : k = len := by omega
      have hq1 := hx1.out.bk.mod hR.out.2 n2
      have e2 := hq1.fr 2
      have c2 := hq1.c2
      have hbs := hq1.lt
      have hE := hide (hx1.out.synced hF.out (fun j hj => ⟨(hB.out j hj).1, Nat.lt_of_lt_of_le (hB.out j hj).2 m1.out.size⟩) (Nat.le_trans hBs m1.out.size) (by rw [hlw.out] at hR; exact hR.out))
      clear hq1
      go_wp2_with fail
      go_ret
      obtain ⟨F', g1, g2⟩ := hE.out
      have hm := m1.out.mono (G := F) (fun _ _ e => e ▸ hF.out b (.inl (.inl rfl)))
      have hn : Nxt B F F w w1 := ⟨hm, hm.below hBs fun j hj => (hB.out j hj).1, fun _ _ h => h⟩
      exact ⟨rfl, F', g1, hn.trans g2⟩
end Go.Proofs.YtjkpelbhhapebaaGreatDoor.W
