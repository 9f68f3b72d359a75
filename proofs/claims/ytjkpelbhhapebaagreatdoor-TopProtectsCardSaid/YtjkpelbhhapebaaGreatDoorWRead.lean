/-
  Read, Rename, Remove, walked. Conditions: a world in memory of its own; names of ordinary sizes; this call doesn't fail.
-/
import Derived.Test.YtjkpelbhhapebaaGreatDoorWNew
namespace Go.Proofs.YtjkpelbhhapebaaGreatDoor.W
open Go.RowKit Go.Maps
set_option maxRecDepth 100000
/-- The world with one call more. -/
def tick (d : Wd) : Wd := { d with ops := d.ops + 1 }
/-- 'call' on a world. -/
theorem call_ws (B b : Nat) (d : Wd) (N : Nat) (F : Nat → Prop) (w : World) (h : WS B w b d N F) (hN : N < 100000) (hfl : d.fl d.ops = false) :
    Calls Tryz.prog 150 #[.pointer (some ⟨b, 0, none⟩)] w fun e w' => e = .returned (.int .i64 0) ∧ WS B w' b (tick d) (N + 1) F ∧ Mod (fun k => k = b) w w' ∧ F b := by
  obtain ⟨⟨sb, db, wv, fv, vs, Fb, hx, hF⟩, hB, hBs⟩ := h
  refine (call_some b sb db d.ops N wv fv d.fl w hx.bk hx.fls (by have := hx.lo; omega)).mono fun e w' ⟨h1, h2, h3⟩ => ⟨by rw [h1, hfl]; rfl, ⟨⟨sb, db, wv, fv, vs, Fb, hx.tick h2 h3, hF⟩, fun k hk => ⟨(hB k hk).1, Nat.lt_of_lt_of_le (hB k hk).2 h3.size⟩, Nat.le_trans hBs h3.size⟩, h3, hF b (.inl (.inl rfl))⟩
theorem read_none (B b : Nat) (d : Wd) (N : Nat) (F : Nat → Prop) (s : ByteArray) (off n : Nat) (w : World) (h : WS B w b d N F) (hN : N < 100000) (hfl : d.fl d.ops = false) (h1 : 1 ≤ s.size) (h2 : s.size ≤ 32) (hs : d.seen s = none) :
    Calls Tryz.prog 115 #[.pointer (some ⟨b, 0, none⟩), .string s, .int .i64 off, .int .i64 n] w fun e w' => e = .returned (.tuple #[.slice none 0 0, .int .i64 8]) ∧ WS B w' b (tick d) (N + 1) F ∧ Nxt B F F w w' := by
  have hcall := hide (call_ws B b d N F w h hN hfl)
  have hBs := h.2.2
  have hB := h.2.1
  obtain ⟨⟨sb, db, wv, fv, vs, Fb, hx, hF⟩, -, -⟩ := h
  have c0 := hx.bk.c0
  have hb := hx.bk.lt
  obtain ⟨v0, -, hlk, hb0, -⟩ := hx.seen.get s (by simp [maxLen]; omega)
  obtain ⟨A, c, rfl, -, -⟩ := hb0
  rw [hs] at hlk
  simp only [Option.isSome_none] at hlk
  have hname := hide (name_ok s w h1 h2)
  have d1 : decide ((off : Int) < 0) = false := by simp
  have d2 : decide ((n : Int) < 0) = false := by simp
  clear hx hF
  go_enter Tryz.func115, Tryz.ntmps115
  go_wp2_with (first
    | (go_at_call 149; (with_reducible refine hname.out.mono ?_); rintro e w1 ⟨rfl, rfl⟩)
    | (go_at_call 150; (with_reducible refine hcall.out.mono ?_); rintro e w2 ⟨rfl, k1, k2, k3⟩; replace k1 := hide k1; replace k2 := hide k2; replace k3 := hide k3))
  go_ret2
  have hm := k2.out.mono (G := F) (fun _ _ e => e ▸ k3.out)
  exact ⟨rfl, k1.out, hm, hm.below hBs fun k hk => (hB k hk).1, fun _ _ h => h⟩
set_option maxHeartbeats 1000000 in
theorem read_some (B b : Nat) (d : Wd) (N : Nat) (F : Nat → Prop) (s : ByteArray) (off n : Nat) (L : List Int) (w : World) (h : WS B w b d N F) (hN : N < 100000) (hfl : d.fl d.ops = false) (h1 : 1 ≤ s.size) (h2 : s.size ≤ 32) (hs : d.seen s = some L) (hn : n ≤ 100000) (ho : off ≤ 100000) :
    Calls Tryz.prog 115 #[.pointer (some ⟨b, 0, none⟩), .string s, .int .i64 off, .int .i64 n] w fun e w' => ∃ v, e = .returned (.tuple #[v, .int .i64 0]) ∧ Row w' 5 1 (ic .u8) v ((L.drop off).take n) ∧ (∀ k, v.ownBlock = some k → w.heap.size ≤ k) ∧ WS B w' b (tick d) (N + 1) F ∧ Nxt B F F w w' := by
  have hcall := hide (call_ws B b d N F w h hN hfl)
  have hBs := h.2.2
  have hB := h.2.1
  obtain ⟨⟨sb, db, wv, fv, vs, Fb, hx, hF⟩, -, -⟩ := h
  have c0 := hx.bk.c0
  have hb := hx.bk.lt
  have hLm : L.length ≤ 1048576 := by have := hx.ok1 s; rw [hs] at this; exact this
  have hnb := hx.nb
  obtain ⟨v0, -, hlk, hb0, -⟩ := hx.seen.get s (by simp [maxLen]; omega)
  rw [hs] at hlk hb0
  simp only [Option.isSome_some, Option.getD_some] at hlk hb0
  obtain ⟨A, c, rfl, hc1, hc2, hr, hFA⟩ := hb0
  obtain ⟨n0, hn0⟩ : ∃ n0, n0 = L.length := ⟨_, rfl⟩
  rw [← hn0] at hlk hc1 hr hFA hLm
  have hname := hide (name_ok s w h1 h2)
  have d1 : decide ((off : Int) < 0) = false := by simp
  have d2 : decide ((n : Int) < 0) = false := by simp
  replace hn0 := hide hn0
  clear hx hF
  by_cases hoff : n0 ≤ off
  · have d3 : decide ((n0 : Int) ≤ off) = true := by simpa using hoff
    have hnil : (L.drop off).take n = [] := by rw [List.drop_eq_nil_of_le (by rw [← hn0.out]; exact hoff)]; simp
    rw [hnil]
    go_enter Tryz.func115, Tryz.ntmps115
    go_wp2_with (first
      | (go_at_call 149; (with_reducible refine hname.out.mono ?_); rintro e w1 ⟨rfl, rfl⟩)
      | (go_at_call 150; (with_reducible refine hcall.out.mono ?_); rintro e w2 ⟨rfl, k1, k2, k3⟩; replace k1 := hide k1; replace k2 := hide k2; replace k3 := hide k3))
    go_ret2
    have hm := k2.out.mono (G := F) (fun _ _ e => e ▸ k3.out)
    exact ⟨_, rfl, Row.nil _ _ _ _, by simp [Value.ownBlock], k1.out, hm, hm.below hBs fun k hk => (hB k hk).1, fun _ _ h => h⟩
  · have d3 : decide ((n0 : Int) ≤ off) = false := by simpa using hoff
    obtain ⟨ad, rfl, -⟩ := hr.2 0 (by omega)
    obtain ⟨r, hrr⟩ : ∃ r : Nat, r + off = n0 := ⟨n0 - off, by omega⟩
    have e1 : IntKind.i64.wrap ((n0 : Int) - off) = (r : Int) := by rw [show (n0 : Int) - off = r by omega]; exact IntWalk.i64_in _ (by omega)
    obtain ⟨k, hk⟩ : ∃ k, (r < n ∧ k = r) ∨ (n ≤ r ∧ k = n) := by
      rcases Nat.lt_or_ge r n with h | h
      · exact ⟨r, .inl ⟨h, rfl⟩⟩
      · exact ⟨n, .inr ⟨h, rfl⟩⟩
    have hkr : k ≤ r := by rcases hk with ⟨h1, rfl⟩ | ⟨h1, rfl⟩ <;> omega
    have hkl : (L.drop off).take n = (L.drop off).take k := by
      rcases hk with ⟨h1, rfl⟩ | ⟨h1, rfl⟩
      · have hlen : (L.drop off).length = k := by rw [List.length_drop, ← hn0.out]; omega
        rw [List.take_of_length_le (by omega), List.take_of_length_le (by omega)]
      · rfl
    rw [hkl]
    have hcut : Rd w 1 (ic .u8) (some (ad.add off)) k ((L.drop off).take k) := by
      have := (hr.drop off (by omega)).take k (by omega)
      simpa using this
    have hcb : Fb (ad.add off).block := by
      have := hFA ad rfl (by omega)
      simp only [Addr.add]
      split <;> exact this
    have hco : ¬ c = off := by omega
    have e5 : ((off : Int) + k).toNat - off = k := by omega
    replace hcut := hide hcut
    replace hcb := hide hcb
    have hoc : off + k ≤ c := by omega
    clear hr hFA hkl hrr hkr
    rcases hk with ⟨h3, hk⟩ | ⟨h3, hk⟩
    all_goals
      subst hk
      go_enter Tryz.func115, Tryz.ntmps115
      go_wp2_with (first
        | (go_at_call 149; (with_reducible refine hname.out.mono ?_); rintro e w1 ⟨rfl, rfl⟩)
        | (go_at_call 150; (with_reducible refine hcall.out.mono ?_); rintro e w2 ⟨rfl, k1, k2, k3⟩
           have hcut2 := hide (hcut.out.mod k2 (fun a ea e => by
             injection ea with ea
             subst ea
             exact hnb (e ▸ hcb.out)))
           replace k1 := hide k1; replace k2 := hide k2; replace k3 := hide k3)
        | (at_builtin; refine list_app (.const (.slice none 0 0)) (.tmp 59) 22 5 _ 1 1 (ic .u8) rfl rfl (ic_len _) (ic_one _) Tryz.underlying22 elem5 (.slice none 0 0) [] (some (ad.add off)) k (c - off) ((L.drop off).take k) rfl rfl (Row.nil _ _ _ _) hcut2.out ?_ ?_ ?_
           (simp [maxLen]; omega)
           (simp; omega)
           intro v1 w3 r1 g1 a1
           rw [List.nil_append] at r1
           have m3 : Mod (fun _ => False) w2 w3 := (Mod.refl _ w2).grown g1 (by simp [Value.ownBlock])
           have ho1 : ∀ k, v1.ownBlock = some k → w2.heap.size ≤ k := fun k hk => (by
             rcases a1 with e | e <;> rw [e] at hk
             · simp [Value.ownBlock] at hk
             · simp at hk; omega)
           obtain ⟨A1, n1, c1, rfl⟩ := r1.form
           replace r1 := hide r1; replace m3 := hide m3; replace ho1 := hide ho1; clear g1 a1))
      go_ret2
      have hm := (k2.out.mono (G := F) (fun _ _ e => e ▸ k3.out)).trans m3.out (fun _ _ h => h.elim)
      exact ⟨_, rfl, r1.out, fun k hk => Nat.le_trans k2.out.size (ho1.out k hk), k1.out.mod m3.out (fun _ _ h => h), hm, hm.below hBs fun k hk => (hB k hk).1, fun _ _ h => h⟩
end Go.Proofs.YtjkpelbhhapebaaGreatDoor.W
