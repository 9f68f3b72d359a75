/-
  Plan, walked. Conditions: a world in memory of its own; a plan of an ordinary length, no stop.
-/
import Derived.Test.YtmlnieblgkhjnaaNew
namespace Go.Proofs.Ytmlnieblgkhjnaa
open Go.RowKit Go.Maps
section
variable {w : World} {ops : Array Oper} {rest : List Oper} {o : Oper} {a : Act} {Q : Exit → Act → World → Prop}
theorem list_plan (m x v : Operand) (hg : o.guard = none) (hop : o.op = Op.mapUpdate 48 m x v) (mb n : Nat) (i : Int) (fl : Int → Bool)
    (hm : a.eval m = .map (some mb)) (hx : a.eval x = .int .i64 i) (hv : a.eval v = .bool true) (h : FL w (.map (some mb)) n fl) (hn : n < maxLen) (hi : (Lit.int .i64 i).wf = true)
    (hK : ∀ w', Mod (fun k => k = mb) w w' → FL w' (.map (some mb)) (n + 1) (fun t => if t = i then true else fl t) → wpList Try.prog ops Q rest (a.put o.dst undef) w') : wpList Try.prog ops Q (o :: rest) a w := by
  refine wpList_plain hg fun K' hK' => ?_
  obtain ⟨w', hrun, h1, h2⟩ := h.store hn i hi
  unfold Oper.wp
  simp [execOp, hop, hm, hx, hv, hrun, Result.andThen]
  exact hK' _ _ (hK w' h2 h1)
end
/-- The plan as a test. -/
def inP (l : List Int) (i : Nat) : Int → Bool := fun x => decide (x ∈ l.take i)
theorem inP_step (l : List Int) (i : Nat) (h : i < l.length) : (fun t => if t = gi l i then true else inP l i t) = inP l (i + 1) := by
  funext t
  have e : t ∈ l.take (i + 1) ↔ t ∈ l.take i ∨ t = gi l i := by
    rw [List.take_add_one, List.getElem?_eq_getElem h, ← gi_eq l i h]
    simp only [Option.toList_some, List.mem_append, List.mem_singleton]
  show (if t = gi l i then true else decide (t ∈ l.take i)) = decide (t ∈ l.take (i + 1))
  by_cases e2 : t = gi l i
  · rw [if_pos e2]
    exact (decide_eq_true (e.2 (.inr e2))).symm
  · rw [if_neg e2]
    exact decide_eq_decide.2 ⟨fun h => e.2 (.inl h), fun h => (e.1 h).resolve_right e2⟩
def planned (d : Wd) (l : List Int) : Wd := { d with ops := 0, fl := fun x => decide (x ∈ l) }
def plSet (w : World) (b : Nat) : World := ((((w.setCell ⟨b, 3, none⟩ (.int .i64 0)).setCell ⟨b, 5, none⟩ (.int .i64 (-1))).setCell ⟨b, 4, none⟩ (.map (some w.heap.size))).alloc (.map #[] 0))
theorem plSet_size (w : World) (b : Nat) : (plSet w b).heap.size = w.heap.size + 1 := by simp [plSet, World.setCell]
theorem plSet_mod (w : World) (b : Nat) : Mod (fun k => k = b) w (plSet w b) := (((mod_set w b 3 _).trans (mod_set _ b 5 _) fun _ _ h => h).trans (mod_set _ b 4 _) fun _ _ h => h).alloc _
theorem plSet_bk {w : World} {b sb db ops : Nat} {wv fv : Value} (h : Bk w b sb db wv fv ops) : Bk (plSet w b) b sb db wv (.map (some w.heap.size)) 0 := (((h.s3 0).s5).s4 (.map (some w.heap.size))).mod ((Mod.refl (fun _ => False) _).alloc _) (fun h => h)
theorem plSet_fl (w : World) (b : Nat) : FL (plSet w b) (.map (some w.heap.size)) 0 (fun _ => false) := by
  have := FL.made (((w.setCell ⟨b, 3, none⟩ (.int .i64 0)).setCell ⟨b, 5, none⟩ (.int .i64 (-1))).setCell ⟨b, 4, none⟩ (.map (some w.heap.size)))
  have e : (((w.setCell ⟨b, 3, none⟩ (.int .i64 0)).setCell ⟨b, 5, none⟩ (.int .i64 (-1))).setCell ⟨b, 4, none⟩ (.map (some w.heap.size))).heap.size = w.heap.size := by simp [World.setCell]
  rw [e] at this
  exact this
theorem WX.planned {B : Nat} {w wr : World} {b N sb db : Nat} {d : Wd} {wv fv : Value} {vs : List Wt} {F Fb : Nat → Prop} {l : List Int} (h : WX w b d N sb db wv fv vs Fb) (hF : ∀ k, Ct b sb db wv fv k ∨ Fb k → F k) (hB : ∀ k, F k → B ≤ k ∧ k < w.heap.size) (hBs : B ≤ w.heap.size)
    (m1 : Mod (fun k => k = w.heap.size) (plSet w b) wr) (f1 : FL wr (.map (some w.heap.size)) l.length (inP l l.length)) :
    ∃ F', WS B wr b (Ytmlnieblgkhjnaa.planned d l) (N + l.length) F' ∧ Nxt B F F' w wr := by
  obtain ⟨n1, n2, n3, n4, n5, n6, n7⟩ := h.parts
  have hbl := h.bk.lt
  have ms := plSet_mod w b
  have hM : Mod (fun k => k = b) w wr := ms.trans m1 (fun i hi e => by omega)
  have hb1 := (plSet_bk h.bk).mod m1 (by omega)
  have hsz : w.heap.size < wr.heap.size := f1.lt _ rfl
  have hd : ∀ k, Fb k → ¬ k = b := fun k hk e => h.nb (e ▸ hk)
  have hmF : Mod F w wr := hM.mono fun i _ e => e ▸ hF b (.inl (.inl rfl))
  have e1 : inP l l.length = (Ytmlnieblgkhjnaa.planned d l).fl := by funext x; simp [inP, Ytmlnieblgkhjnaa.planned]
  rw [e1] at f1
  refine ⟨fun k => F k ∨ k = w.heap.size, ⟨⟨sb, db, wv, .map (some w.heap.size), vs, Fb, ?_, ?_⟩, ?_, Nat.le_trans hBs hmF.size⟩, hmF, hmF.below hBs fun k hk => (hB k hk).1, ?_⟩
  · exact { bk := hb1, seen := (h.seen.mod hM hd (fun e => n1 e.symm)).le (Nat.le_add_right _ _), dur := (h.dur.mod hM hd (fun e => n2 e.symm)).le (Nat.le_add_right _ _), ne := h.ne,
            row := h.row.mod hM (fun k hk e => n3 (e ▸ hk)), wts := h.wts, byt := fun x hx => (h.byt x hx).mod hM hd, fls := f1.mono (Nat.le_add_left _ _),
            nb := h.nb, nw := h.nw, nf := fun k hk => (by
              injection hk with hk
              injection hk with hk
              subst hk
              exact ⟨fun hf => by have := (hB _ (hF _ (.inr hf))).2; omega, by have := h.seen.lt; omega, by have := h.dur.lt; omega⟩), ok1 := h.ok1, ok2 := h.ok2, okc := h.okc, lo := Nat.zero_le _, lw := Nat.le_trans h.lw (Nat.le_add_right _ _) }
  · rintro k ((rfl | rfl | rfl | hk | hk) | hk)
    · exact .inl (hF _ (.inl (.inl rfl)))
    · exact .inl (hF _ (.inl (.inr (.inl rfl))))
    · exact .inl (hF _ (.inl (.inr (.inr (.inl rfl)))))
    · exact .inl (hF _ (.inl (.inr (.inr (.inr (.inl hk))))))
    · injection hk with hk
      injection hk with hk
      exact .inr hk.symm
    · exact .inl (hF _ (.inr hk))
  · intro k hk
    rcases hk with hk | rfl
    · exact ⟨(hB k hk).1, Nat.lt_of_lt_of_le (hB k hk).2 hmF.size⟩
    · exact ⟨hBs, hsz⟩
  · intro k hk hh
    rcases hh with hh | hh
    · exact hh
    · omega
set_option maxHeartbeats 4000000 in
theorem plan_some (B b : Nat) (d : Wd) (N : Nat) (F : Nat → Prop) (A : Option Addr) (n c : Nat) (l : List Int) (w : World) (h : WS B w b d N F) (hr : Rd w 1 (ic .i64) A n l) (hl : ∀ x ∈ l, (Lit.int .i64 x).wf = true) (hn : n ≤ 1000) (hA : ∀ ad, A = some ad → 0 < n → ¬ F ad.block ∧ ad.block < w.heap.size) :
    Calls Try.prog 10 #[.pointer (some ⟨b, 0, none⟩), .slice A n c, .int .i64 (-1)] w fun e w' => ∃ F', e = .returned (.tuple #[]) ∧ WS B w' b (planned d l) (N + n) F' ∧ Nxt B F F' w w' := by
  have hBs := h.2.2
  have hB := h.2.1
  obtain ⟨⟨sb, db, wv, fv, vs, Fb, hx, hF⟩, -, -⟩ := h
  have hmm := @run_makeMap Try.prog
  have hb := hx.bk.lt
  have ma : ∀ a : World, Mod (fun _ => False) a (a.alloc (.map #[] 0)) := fun a => (Mod.refl _ a).alloc _
  have c3 := hx.bk.c3; have c4 := hx.bk.c4; have c5 := hx.bk.c5
  have hq1 := hx.bk.mod (ma _) (fun h => h)
  have f13 := hq1.fr 3; have g13 := hq1.c3
  have hq2 := (hx.bk.s3 0).mod (ma _) (fun h => h)
  have f25 := hq2.fr 5; have g25 := hq2.c5
  have hq3 := (hx.bk.s3 0).s5.mod (ma _) (fun h => h)
  have f34 := hq3.fr 4; have g34 := hq3.c4
  have z0 : ((0 : Nat) : Int) = 0 := rfl
  rw [z0] at f25 g25 f34 g34
  clear z0 hq1 hq2 hq3 ma
  have hln : l.length = n := hr.1
  have hP0 : Mod (fun k => k = w.heap.size) (plSet w b) (plSet w b) ∧ FL (plSet w b) (.map (some w.heap.size)) 0 (inP l 0) :=
    ⟨Mod.refl _ _, by
      have e : (fun _ => false) = inP l 0 := by funext x; simp [inP]
      rw [← e]
      exact plSet_fl w b⟩
  have hbk := plSet_bk hx.bk
  have hpl : plSet w b = ((((w.setCell ⟨b, 3, none⟩ (.int .i64 0)).setCell ⟨b, 5, none⟩ (.int .i64 (-1))).setCell ⟨b, 4, none⟩ (.map (some w.heap.size))).alloc (.map #[] 0)) := rfl
  have hrd : Rd (plSet w b) 1 (ic .i64) A n l := by
    by_cases h0 : 0 < n
    · exact hr.mod (plSet_mod w b) fun ad e hh => (hA ad e h0).1 (hh ▸ hF b (.inl (.inl rfl)))
    · have e : l = [] := List.eq_nil_of_length_eq_zero (by omega)
      subst e
      obtain rfl : n = 0 := by omega
      exact Rd.none_ _ _ _ _
  replace hP0 := hide hP0
  replace hbk := hide hbk
  replace hx := hide hx
  replace hF := hide hF
  replace hrd := hide hrd
  replace hln := hide hln
  replace hl := hide hl
  clear hr
  go_enter Try.func10, Try.ntmps10
  go_wp2_with fail
  rw [← hpl]
  clear hpl c3 c4 c5 f13 g13 f25 g25 f34 g34
  generalize hW : plSet w b = W at *
  go_loopw [23] (fun u wr => ∃ k : Nat, k ≤ n ∧ u = .int .i64 k ∧ Hid (Mod (fun j => j = w.heap.size) W wr ∧ FL wr (.map (some w.heap.size)) k (inP l k))) (fun u _ => n - (intOf u).toNat)
  case atStart => exact ⟨0, by omega, rfl, hP0⟩
  case round =>
    obtain ⟨k, hk, rfl, hR⟩ := hrel
    by_cases hlt : k < n
    · have hrk : Rd wr 1 (ic .i64) A n l := hrd.out.mod hR.out.1 fun ad e hh => by have := (hA ad e (by omega)).2; omega
      obtain ⟨ad, rfl, hck⟩ := hrk.int k hlt
      have hqb := hbk.out.mod hR.out.1 (by omega)
      have b4 := hqb.c4
      have hbw := hqb.lt
      have hwf : (Lit.int .i64 (gi l k)).wf = true := hl.out _ (by rw [gi_eq l k (by rw [hln.out]; exact hlt)]; exact List.getElem_mem _)
      have hst := inP_step l k (by rw [hln.out]; exact hlt)
      replace hst := hide hst
      replace hwf := hide hwf
      clear hrk hqb
      generalize hx0 : gi l k = x0 at *
      replace hx0 := hide hx0
      go_wp2_with (first
        | (at_mapUpdate; refine list_plan (.tmp 30) (.tmp 31) (.const (.bool true)) rfl rfl w.heap.size k x0 (inP l k) rfl rfl rfl hR.out.2 (by simp [maxLen]; omega) hwf.out ?_
           intro w3 m3 f3
           rw [hst.out] at f3
           have hE := hide (And.intro (hR.out.1.trans m3 (fun _ _ h => h)) f3)
           clear m3 f3))
      go_roundw
      case rel => exact ⟨k + 1, by omega, by go_num, hE⟩
      case measure => simp [intOf]; omega
    · obtain rfl : k = n := by omega
      have hf := hR.out.2
      rw [← hln.out] at hf
      rw [← hW] at hR
      have hE := hide (hx.out.planned hF.out hB hBs hR.out.1 hf)
      clear hf
      go_wp2_with fail
      refine bodyPost_end (results_none rfl _ _ _) rfl ?_
      obtain ⟨F', g1, g2⟩ := hE.out
      rw [hln.out] at g1
      exact ⟨F', rfl, g1, g2⟩
end Go.Proofs.Ytmlnieblgkhjnaa
