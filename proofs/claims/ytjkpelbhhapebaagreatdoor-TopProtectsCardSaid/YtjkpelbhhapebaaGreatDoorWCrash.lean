/-
  Crash, walked. Conditions: a world in memory of its own.
-/
import Derived.Test.YtjkpelbhhapebaaGreatDoorWClone
namespace Go.Proofs.YtjkpelbhhapebaaGreatDoor.W
open Go.RowKit Go.Maps
set_option maxRecDepth 100000
/-- What a crash does with change number i. -/
def crS (g : ByteArray → Option (List Int)) (c : Cg) (keep torn i : Nat) : ByteArray → Option (List Int) :=
  if i < keep then ap g c c.p.length else if i = keep ∧ c.k = 119 ∧ 0 < torn then ap g c torn else g
/-- What is durable after i changes. -/
def crN (f : ByteArray → Option (List Int)) (l : List Cg) (keep torn : Nat) : Nat → ByteArray → Option (List Int)
  | 0 => f
  | i + 1 => crS (crN f l keep torn i) (gi l i) keep torn i
theorem Ok1.crN {f : ByteArray → Option (List Int)} (h : Ok1 f) (l : List Cg) (hl : ∀ c ∈ l, OkC c) (keep torn : Nat) : ∀ i, i ≤ l.length → Ok1 (crN f l keep torn i)
  | 0, _ => h
  | i + 1, hi => by
    have ih := Ok1.crN h l hl keep torn i (by omega)
    have hc : OkC (gi l i) := hl _ (by rw [gi_eq l i (by omega)]; exact List.getElem_mem _)
    unfold YtjkpelbhhapebaaGreatDoor.W.crN crS
    split
    · exact ih.ap _ hc _
    · split
      · exact ih.ap _ hc _
      · exact ih
/-- The world after the crash. -/
def crashed (d : Wd) (keep torn : Nat) : Wd := ⟨crN d.dur d.waits keep torn d.waits.length, crN d.dur d.waits keep torn d.waits.length, [], 0, fun _ => false⟩
def CrI (w wr : World) (db N : Nat) (d : Wd) (Fb : Nat → Prop) (keep torn i : Nat) : Prop :=
  FS wr db (N + i) (crN d.dur d.waits keep torn i) (fun k => Fb k ∨ (w.heap.size ≤ k ∧ k < wr.heap.size)) ∧ Mod (fun k => k = db) w wr
theorem CrI.start {w : World} {db N keep torn : Nat} {d : Wd} {Fb : Nat → Prop} (h : FS w db N d.dur Fb) : CrI w w db N d Fb keep torn 0 :=
  ⟨h.mono (fun k hk => .inl hk) (by
    rintro (e | e)
    · obtain ⟨_, _, q, _⟩ := h; exact q e
    · have := h.lt; omega), Mod.refl _ _⟩
theorem CrI.step {w wr w2 w3 : World} {db N i keep torn m : Nat} {d : Wd} {Fb : Nat → Prop} {c : Cg} (h : CrI w wr db N d Fb keep torn i) (hlt : db < w.heap.size) (hc : gi d.waits i = c) (m2 : Mod (fun _ => False) wr w2) (hm : crS (crN d.dur d.waits keep torn i) c keep torn i = ap (crN d.dur d.waits keep torn i) c m)
    (f3 : FS w3 db (N + i + 1) (ap (crN d.dur d.waits keep torn i) c m) (fun k => (Fb k ∨ (w.heap.size ≤ k ∧ k < wr.heap.size)) ∨ (w2.heap.size ≤ k ∧ k < w3.heap.size))) (m3 : Mod (fun k => k = db) w2 w3) : CrI w w3 db N d Fb keep torn (i + 1) := by
  obtain ⟨h1, h2⟩ := h
  have s1 := h2.size
  have s2 := m2.size
  have s3 := m3.size
  refine ⟨?_, (h2.trans m2 (fun _ _ h => h.elim)).trans m3 (fun _ _ h => h)⟩
  unfold crN
  rw [hc, hm]
  obtain ⟨_, _, q, _⟩ := id f3
  refine f3.mono ?_ ?_
  · rintro k ((hk | hk) | hk)
    · exact .inl hk
    · exact .inr ⟨hk.1, by omega⟩
    · exact .inr ⟨by omega, hk.2⟩
  · rintro (hk | hk)
    · exact q (.inl (.inl hk))
    · omega
theorem CrI.skip {w wr w2 : World} {db N i keep torn : Nat} {d : Wd} {Fb : Nat → Prop} {c : Cg} (h : CrI w wr db N d Fb keep torn i) (hlt : db < w.heap.size) (hc : gi d.waits i = c) (m2 : Mod (fun _ => False) wr w2) (hm : crS (crN d.dur d.waits keep torn i) c keep torn i = crN d.dur d.waits keep torn i) : CrI w w2 db N d Fb keep torn (i + 1) := by
  obtain ⟨h1, h2⟩ := h
  have s2 := m2.size
  refine ⟨?_, h2.trans m2 (fun _ _ h => h.elim)⟩
  unfold crN
  rw [hc, hm]
  obtain ⟨_, _, q, _⟩ := id h1
  refine ((h1.mod m2 (fun _ _ h => h) (fun h => h)).mono ?_ ?_).le (Nat.le_succ _)
  · rintro k (hk | hk)
    · exact .inl hk
    · exact .inr ⟨hk.1, by omega⟩
  · rintro (hk | hk)
    · exact q (.inl hk)
    · omega
theorem CrI.read {w wr : World} {db N i keep torn : Nat} {d : Wd} {wv : Value} {vs : List Wt} {Fb : Nat → Prop} (h : CrI w wr db N d Fb keep torn i) (hr : Row w 119 5 encC wv vs) (hd : wv.ownBlock ≠ some db) : Row wr 119 5 encC wv vs := hr.mod h.2 fun _ hk e => hd (e ▸ hk)
/-- The stores behind the loop. -/
def crSet (w : World) (b x : Nat) : World :=
  (((((w.setCell ⟨b, 0, none⟩ (.map (some x))).setCell ⟨b, 2, none⟩ (.slice none 0 0)).setCell ⟨b, 4, none⟩ (.map none)).setCell ⟨b, 3, none⟩ (.int .i64 0)).setCell ⟨b, 5, none⟩ (.int .i64 (-1))).setCell ⟨b, 6, none⟩ (.bool false)
theorem crSet_bk {w : World} {b sb db ops x : Nat} {wv fv : Value} (h : Bk w b sb db wv fv ops) : Bk (crSet w b x) b x db (.slice none 0 0) (.map none) 0 := (((((h.s0 x).s2 _).s4 _).s3 0).s5).s6
theorem crSet_mod (w : World) (b x : Nat) : Mod (fun k => k = b) w (crSet w b x) :=
  ((((((mod_set w b 0 _).trans (mod_set _ b 2 _) fun _ _ h => h).trans (mod_set _ b 4 _) fun _ _ h => h).trans (mod_set _ b 3 _) fun _ _ h => h).trans (mod_set _ b 5 _) fun _ _ h => h).trans (mod_set _ b 6 _) fun _ _ h => h)
theorem WX.crashed {B : Nat} {w wr w2 : World} {b N sb db keep torn : Nat} {d : Wd} {wv fv : Value} {vs : List Wt} {F Fb : Nat → Prop} (h : WX w b d N sb db wv fv vs Fb) (hF : ∀ k, Ct b sb db wv fv k ∨ Fb k → F k) (hB : ∀ k, F k → B ≤ k ∧ k < w.heap.size) (hBs : B ≤ w.heap.size)
    (hs : CrI w wr db N d Fb keep torn d.waits.length) (f2 : FS w2 wr.heap.size (N + d.waits.length) (crN d.dur d.waits keep torn d.waits.length) (fun k => Fb k ∨ (w.heap.size ≤ k ∧ k < wr.heap.size))) (m2 : Mod (fun _ => False) wr w2) (hlt : wr.heap.size < w2.heap.size) :
    ∃ F', WS B (crSet w2 b wr.heap.size) b (YtjkpelbhhapebaaGreatDoor.W.crashed d keep torn) (N + d.waits.length) F' ∧ Nxt B F F' w (crSet w2 b wr.heap.size) := by
  obtain ⟨n1, n2, n3, n4, n5, n6, n7⟩ := h.parts
  obtain ⟨hs1, hs2⟩ := hs
  have hset := crSet_mod w2 b wr.heap.size
  have s2 := hs2.size
  have s3 := hset.size
  have s4 := m2.size
  have hbl := h.bk.lt
  have hdl := h.dur.lt
  have nb : ∀ k, (Fb k ∨ (w.heap.size ≤ k ∧ k < wr.heap.size)) → ¬ k = b := fun k hk e => by
    rcases hk with hk | hk
    · exact h.nb (e ▸ hk)
    · omega
  have hmF : Mod F w (crSet w2 b wr.heap.size) := ((hs2.mono (G := F) fun i _ e => e ▸ hF db (.inl (.inr (.inr (.inl rfl))))).trans m2 (fun _ _ h => h.elim)).trans hset fun i _ e => e ▸ hF b (.inl (.inl rfl))
  refine ⟨fun k => F k ∨ (w.heap.size ≤ k ∧ k < (crSet w2 b wr.heap.size).heap.size), ⟨⟨wr.heap.size, db, .slice none 0 0, .map none, [], fun k => Fb k ∨ (w.heap.size ≤ k ∧ k < wr.heap.size), ?_, ?_⟩, ?_, ?_⟩, hmF, hmF.below hBs fun k hk => (hB k hk).1, ?_⟩
  · exact { bk := crSet_bk ((h.bk.mod hs2 n2).mod m2 (fun h => h)), seen := f2.mod hset nb (by omega), dur := (hs1.mod m2 (fun _ _ h => h) (fun h => h)).mod hset nb (fun e => n2 e.symm), ne := by omega, row := Row.nil _ _ _ _, wts := rfl, byt := fun x hx => (by cases hx), fls := .inl ⟨rfl, fun _ => rfl⟩, nb := fun hk => nb b hk rfl, nw := fun k hk => (by simp [Value.ownBlock] at hk), nf := fun k hk => (by cases hk), ok1 := h.ok2.crN _ h.okc keep torn _ (Nat.le_refl _), ok2 := h.ok2.crN _ h.okc keep torn _ (Nat.le_refl _), okc := fun c hc => (by cases hc), lo := Nat.zero_le _, lw := Nat.zero_le _ }
  · rintro k ((rfl | rfl | rfl | hk | hk) | hk)
    · exact .inl (hF _ (.inl (.inl rfl)))
    · exact .inr ⟨s2, by omega⟩
    · exact .inl (hF _ (.inl (.inr (.inr (.inl rfl)))))
    · simp [Value.ownBlock] at hk
    · cases hk
    · rcases hk with hk | hk
      · exact .inl (hF _ (.inr hk))
      · exact .inr ⟨hk.1, by omega⟩
  · intro k hk
    rcases hk with hk | hk
    · exact ⟨(hB k hk).1, Nat.lt_of_lt_of_le (hB k hk).2 hmF.size⟩
    · exact ⟨by omega, hk.2⟩
  · omega
  · intro k hk hh
    rcases hh with hh | hh
    · exact hh
    · omega
set_option maxHeartbeats 8000000 in
theorem crash_some (B b : Nat) (d : Wd) (N keep torn : Nat) (F : Nat → Prop) (w : World) (h : WS B w b d N F) (hN : N < 100000) (ht : torn ≤ 1048576) :
    Calls Tryz.prog 15 #[.pointer (some ⟨b, 0, none⟩), .int .i64 keep, .int .i64 torn] w fun e w' => ∃ F', e = .returned (.tuple #[]) ∧ WS B w' b (crashed d keep torn) (N + d.waits.length) F' ∧ Nxt B F F' w w' := by
  have hBs := h.2.2
  have hB := h.2.1
  obtain ⟨⟨sb, db, wv, fv, vs, Fb, hx, hF⟩, -, -⟩ := h
  have hb := hx.bk.lt
  obtain ⟨n1, n2, n3, n4, n5, n6, n7⟩ := hx.parts
  obtain ⟨len, hlen⟩ : ∃ len, len = vs.length := ⟨_, rfl⟩
  obtain ⟨Aw, cw, hwv, hcw1, -⟩ := hx.row.slice
  rw [← hlen] at hwv hcw1
  have hlw : len = d.waits.length := by rw [hlen, ← hx.wts]; simp
  have hlN : len ≤ N := by rw [hlw]; exact hx.lw
  subst hwv
  have c2 := hx.bk.c2
  have hP := hide (CrI.start (keep := keep) (torn := torn) hx.dur)
  obtain ⟨tz, htz⟩ : ∃ tz : Int, tz = torn := ⟨_, rfl⟩
  rw [← htz]
  replace htz := hide htz
  replace hlen := hide hlen
  replace hlw := hide hlw
  replace hx := hide hx
  replace hF := hide hF
  replace hB := hide hB
  go_enter Tryz.func15, Tryz.ntmps15
  go_wp2_with fail
  clear c2
  go_loopw [15] (fun u wr => ∃ k : Nat, k ≤ len ∧ u = .int .i64 k ∧ Hid (CrI w wr db N d Fb keep torn k)) (fun u _ => len - (intOf u).toNat)
  case atStart => exact ⟨0, by omega, rfl, hP⟩
  case round =>
    obtain ⟨k, hk, rfl, hR⟩ := hrel
    clear hP
    by_cases hlt : k < len
    · have hrow := hR.out.read hx.out.row (fun e => (n5 db e).2.1 rfl)
      obtain ⟨ad, rfl, hc4⟩ := Rd.elem (hrow.rd encC_len rfl) k hlt
      have hkv : k < vs.length := by rw [← hlen.out]; exact hlt
      obtain ⟨⟨c, pa, pc⟩, hxk⟩ : ∃ x, x = gi vs k := ⟨_, rfl⟩
      rw [← hxk] at hc4
      have hmem : (c, pa, pc) ∈ vs := by rw [hxk, gi_eq vs k hkv]; exact List.getElem_mem _
      have hwk : gi d.waits k = c := by
        have e : d.waits[k]? = some c := by
          rw [← hx.out.wts, List.getElem?_map, List.getElem?_eq_getElem hkv, ← gi_eq vs k hkv, ← hxk]
          rfl
        simp [gi, List.getD_eq_getElem?_getD, e]
      have hcm : c ∈ d.waits := by rw [← hwk, gi_eq _ _ (by rw [← hlw.out]; exact hlt)]; exact List.getElem_mem _
      have hbyt := hx.out.byt _ hmem
      obtain ⟨np, hnp⟩ : ∃ np, np = c.p.length := ⟨_, rfl⟩
      simp only [sv] at hbyt
      have hc4' : ∀ j u, ([.int .u8 c.k, .string c.name, .string c.nto, .int .i64 c.off, .slice pa np pc] : List Value)[j]? = some u → wr.cell? ((ad.add (k * 5)).add j) = some u := by rw [hnp]; exact hc4
      have hokc := hx.out.okc c hcm
      have hbyt2 : Rb wr (.slice pa np pc) c.p Fb := by rw [hnp]; exact hbyt.mod hR.out.2 (fun j hj e => n7 (e ▸ hj))
      have hm2 : Mod (fun _ => False) wr (wr.alloc (.cells #[.int .u8 c.k, .string c.name, .string c.nto, .int .i64 c.off, .slice pa np pc] 119)) := (Mod.refl _ wr).alloc _
      have hq1 := hx.out.bk.mod (hR.out.2.trans hm2 (fun _ _ h => h.elim)) n2
      have b1 := hq1.c1
      have hbs := hq1.lt
      have hbx : ∀ j, (wr.alloc (.cells #[.int .u8 c.k, .string c.name, .string c.nto, .int .i64 c.off, .slice pa np pc] 119)).cell? ⟨wr.heap.size, j, none⟩ = (#[.int .u8 c.k, .string c.name, .string c.nto, .int .i64 c.off, .slice pa np pc] : Array Value)[j]? := fun j => World.cell?_alloc_new _ _ _ _
      have x0 := hbx 0; have x1 := hbx 1; have x2 := hbx 2; have x3 := hbx 3; have x4 := hbx 4
      have hm3 := Mod.drew hm2
      have hok1 : Ok1 (crN d.dur d.waits keep torn k) := hx.out.ok2.crN _ hx.out.okc keep torn k (by rw [← hlw.out]; omega)
      have hgen : ∀ m : Nat, m ≤ 1048576 → crS (crN d.dur d.waits keep torn k) c keep torn k = ap (crN d.dur d.waits keep torn k) c m → Calls Tryz.prog 31 #[.map (some db), .agg #[.int .u8 c.k, .string c.name, .string c.nto, .int .i64 c.off, .slice pa np pc], .int .i64 m] (wr.alloc (.cells #[.int .u8 c.k, .string c.name, .string c.nto, .int .i64 c.off, .slice pa np pc] 119)).drew fun e w' => e = .returned (.tuple #[]) ∧ Hid (CrI w w' db N d Fb keep torn (k + 1)) := fun m hm hs =>
        (apply_any db (N + k) _ _ Fb c m (.slice pa np pc) _ (hR.out.1.mod hm3 (fun _ _ h => h) (fun h => h)) (by omega) hokc hok1 (hbyt2.mod hm3 (fun _ _ h => h)) hm).mono fun e w' ⟨h1, h2, h3⟩ => ⟨h1, hide (hR.out.step hx.out.dur.lt hwk hm3 hs h2 h3)⟩
      have hskip : crS (crN d.dur d.waits keep torn k) c keep torn k = crN d.dur d.waits keep torn k → Hid (CrI w (wr.alloc (.cells #[.int .u8 c.k, .string c.name, .string c.nto, .int .i64 c.off, .slice pa np pc] 119)) db N d Fb keep torn (k + 1)) := fun hs => hide (hR.out.skip hx.out.dur.lt hwk hm2 hs)
      have hpl := hokc.2.1
      clear hc4 hbyt hrow hwk hcm hmem hq1 hm2 hm3 hbx hxk hbyt2 hok1 hokc
      replace hc4' := hide hc4'
      by_cases hkk : k < keep
      · have hc2 := hide (hgen np (by omega) (by unfold crS; rw [if_pos hkk, hnp]))
        clear hgen hskip
        have e1 : decide ((k : Int) < keep) = true := by simp; omega
        have e2 : ¬ ((k : Int) = keep) := by omega
        replace hnp := hide hnp
        go_wp2_with (first
          | (refine list_load 119 (.tmp 18) rfl rfl _ Tryz.underlying119 rfl (ad.add (k * 5)) [.int .u8 c.k, .string c.name, .string c.nto, .int .i64 c.off, .slice pa np pc] size54 rfl hc4'.out ?_))
        go_region_with (go_at_call 31; (with_reducible refine hc2.out.mono ?_); rintro e w3 ⟨rfl, h3⟩)
        all_goals
          go_wp2_with fail
          go_roundw
          case rel => exact ⟨k + 1, by omega, by go_num, h3⟩
          case measure => simp [intOf]; omega
      · have e1 : decide ((k : Int) < keep) = false := by simp; omega
        by_cases hke : k = keep ∧ c.k = 119 ∧ 0 < torn
        · have hc2 := hide (hgen torn ht (by unfold crS; rw [if_neg hkk, if_pos hke]))
          clear hgen hskip
          obtain ⟨rfl, h119, h0t⟩ := hke
          have e3 : decide ((0 : Int) < tz) = true := by rw [htz.out]; simp; omega
          rw [← htz.out] at hc2
          rw [h119] at hc2 hc4' b1 x0 x1 x2 x3 x4
          clear h119
          replace hnp := hide hnp
          go_wp2_with (first
            | (refine list_load 119 (.tmp 18) rfl rfl _ Tryz.underlying119 rfl (ad.add (k * 5)) [.int .u8 119, .string c.name, .string c.nto, .int .i64 c.off, .slice pa np pc] size54 rfl hc4'.out ?_))
          go_region_with (go_at_call 31; (with_reducible refine hc2.out.mono ?_); rintro e w3 ⟨rfl, h3⟩)
          all_goals
            go_wp2_with fail
            go_roundw
            case rel => exact ⟨k + 1, by omega, by go_num, h3⟩
            case measure => simp [intOf]; omega
        · have hc2 := hskip (by unfold crS; rw [if_neg hkk, if_neg hke])
          clear hgen hskip
          replace hnp := hide hnp
          by_cases e2 : k = keep
          · subst e2
            by_cases h119 : c.k = 119
            · have e3 : decide ((0 : Int) < tz) = false := by
                rw [htz.out]
                simp
                have : ¬ 0 < torn := fun h => hke ⟨rfl, h119, h⟩
                omega
              clear hke
              rw [h119] at hc2 hc4' b1 x0 x1 x2 x3 x4
              clear h119
              go_wp2_with (first
                | (refine list_load 119 (.tmp 18) rfl rfl _ Tryz.underlying119 rfl (ad.add (k * 5)) [.int .u8 119, .string c.name, .string c.nto, .int .i64 c.off, .slice pa np pc] size54 rfl hc4'.out ?_))
              go_roundw
              case rel => exact ⟨k + 1, by omega, by go_num, hc2⟩
              case measure => simp [intOf]; omega
            · have e4 : (c.k == 119) = false := by simpa using h119
              clear hke h119
              go_wp2_with (first
                | (refine list_load 119 (.tmp 18) rfl rfl _ Tryz.underlying119 rfl (ad.add (k * 5)) [.int .u8 c.k, .string c.name, .string c.nto, .int .i64 c.off, .slice pa np pc] size54 rfl hc4'.out ?_))
              go_roundw
              case rel => exact ⟨k + 1, by omega, by go_num, hc2⟩
              case measure => simp [intOf]; omega
          · have e3 : ((k : Int) == (keep : Int)) = false := by simp; omega
            have e5 : ¬ ((k : Int) = keep) := by omega
            clear hke
            go_wp2_with (first
              | (refine list_load 119 (.tmp 18) rfl rfl _ Tryz.underlying119 rfl (ad.add (k * 5)) [.int .u8 c.k, .string c.name, .string c.nto, .int .i64 c.off, .slice pa np pc] size54 rfl hc4'.out ?_))
            go_roundw
            case rel => exact ⟨k + 1, by omega, by go_num, hc2⟩
            case measure => simp [intOf]; omega
    · obtain rfl : k = len := by omega
      have hq := hR.out
      rw [hlw.out] at hq
      have hq1 := hx.out.bk.mod hq.2 n2
      have b1 := hq1.c1
      have hbs := hq1.lt
      have hnew : ¬ (Fb wr.heap.size ∨ (w.heap.size ≤ wr.heap.size ∧ wr.heap.size < wr.heap.size)) := by
        rintro (e | e)
        · have := (hB.out _ (hF.out _ (.inr e))).2
          have := hq.2.size
          omega
        · omega
      have hcl := hide (clone_fs db _ _ _ wr hq.1 hnew)
      replace hq := hide hq
      replace hq1 := hide hq1
      go_wp2_with (go_at_call 32; (with_reducible refine hcl.out.mono ?_); rintro e w2 ⟨rfl, f2, m2, hlt2⟩
                   have hq2 := hq1.out.mod m2 (fun h => h)
                   have fr0 := hq2.fr 0; have fr2 := hq2.fr 2; have fr3 := hq2.fr 3; have fr4 := hq2.fr 4; have fr5 := hq2.fr 5; have fr6 := hq2.fr 6
                   have g0 := hq2.c0; have g2 := hq2.c2; have g3 := hq2.c3; have g4 := hq2.c4; have g5 := hq2.c5; have g6 := hq2.c6
                   have hbl2 := hq2.lt
                   have hE := hide (hx.out.crashed hF.out hB.out hBs hq.out f2 m2 hlt2)
                   clear f2 m2 hq2)
      refine bodyPost_end (results_none rfl _ _ _) rfl ?_
      obtain ⟨F', g1, g2⟩ := hE.out
      exact ⟨F', rfl, g1, g2⟩
end Go.Proofs.YtjkpelbhhapebaaGreatDoor.W
