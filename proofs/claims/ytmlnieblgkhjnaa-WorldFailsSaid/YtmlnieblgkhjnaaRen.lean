/-
  Rename, Remove, walked. Conditions: a world in memory of its own; names of ordinary sizes; this call doesn't fail.
-/
import Derived.Test.YtmlnieblgkhjnaaRead
namespace Go.Proofs.Ytmlnieblgkhjnaa
open Go.RowKit Go.Maps
theorem nxt_of {B : Nat} {F F' : Nat → Prop} {w w' : World} (hB : ∀ k, F k → B ≤ k ∧ k < w.heap.size) (hBs : B ≤ w.heap.size) (hm : Mod F w w') (hF : ∀ k, k < w.heap.size → F' k → F k ∨ False) : Nxt B F F' w w' :=
  ⟨hm, hm.below hBs fun k hk => (hB k hk).1, fun k hk hf => (hF k hk hf).elim id False.elim⟩
theorem do_plain (B b : Nat) (d : Wd) (N : Nat) (F : Nat → Prop) (k : Int) (s t : ByteArray) (w : World) (h : WS B w b d N F) (hN : N < 100000) (hfl : d.fl d.ops = false) (hk : k = 110 ∨ k = 114) (h2 : s.size ≤ 32) (h4 : t.size ≤ 32) :
    Calls Try.prog 23 #[.pointer (some ⟨b, 0, none⟩), .agg #[.int .u8 k, .string s, .string t, .int .i64 0, .slice none 0 0]] w fun e w' => ∃ F', e = .returned (.int .i64 0) ∧ WS B w' b (did d ⟨k, s, t, 0, []⟩) (N + 1) F' ∧ Nxt B F F' w w' := by
  refine (do_any B b d N F (fun _ => False) ⟨k, s, t, 0, []⟩ (.slice none 0 0) w h hN ⟨by rcases hk with e | e <;> simp [e], by simp, h2, h4⟩ (Rb.nil _ _) (fun _ h => h.elim)).mono ?_
  rintro e w' ⟨F', h1, h2, h3, h4⟩
  refine ⟨F', ?_, h2, nxt_of h.2.1 h.2.2 h3 h4⟩
  rw [h1]
  simp [er, hfl]
theorem rename_none (B b : Nat) (d : Wd) (N : Nat) (F : Nat → Prop) (s t : ByteArray) (w : World) (h : WS B w b d N F) (hN : N < 100000) (hfl : d.fl d.ops = false) (h1 : 1 ≤ s.size) (h2 : s.size ≤ 32) (h3 : 1 ≤ t.size) (h4 : t.size ≤ 32) (hs : d.seen s = none) :
    Calls Try.prog 16 #[.pointer (some ⟨b, 0, none⟩), .string s, .string t] w fun e w' => e = .returned (.int .i64 8) ∧ WS B w' b (tick d) (N + 1) F ∧ Nxt B F F w w' := by
  have hcall := hide (call_ws B b d N F w h hN hfl)
  have hBs := h.2.2
  have hB := h.2.1
  obtain ⟨⟨sb, db, wv, fv, vs, Fb, hx, hF⟩, -, -⟩ := h
  have c0 := hx.bk.c0
  have c6 := hx.bk.c6
  have hb := hx.bk.lt
  obtain ⟨v0, -, hlk, hb0, -⟩ := hx.seen.get s (by simp [maxLen]; omega)
  obtain ⟨A, c, rfl, -, -⟩ := hb0
  rw [hs] at hlk
  simp only [Option.isSome_none] at hlk
  have hname := hide (name_ok s w h1 h2)
  have hname2 := hide (name_ok t w h3 h4)
  clear hx hF
  go_enter Try.func16, Try.ntmps16
  go_wp2_with (first
    | (go_at_call 22; (with_reducible refine hname.out.mono ?_); rintro e w1 ⟨rfl, rfl⟩)
    | (go_at_call 22; (with_reducible refine hname2.out.mono ?_); rintro e w1 ⟨rfl, rfl⟩)
    | (go_at_call 24; (with_reducible refine hcall.out.mono ?_); rintro e w2 ⟨rfl, k1, k2, k3⟩; replace k1 := hide k1; replace k2 := hide k2; replace k3 := hide k3))
  go_ret
  have hm := k2.out.mono (G := F) (fun _ _ e => e ▸ k3.out)
  exact ⟨rfl, k1.out, hm, hm.below hBs fun k hk => (hB k hk).1, fun _ _ h => h⟩
theorem rename_some (B b : Nat) (d : Wd) (N : Nat) (F : Nat → Prop) (s t : ByteArray) (L : List Int) (w : World) (h : WS B w b d N F) (hN : N < 100000) (hfl : d.fl d.ops = false) (h1 : 1 ≤ s.size) (h2 : s.size ≤ 32) (h3 : 1 ≤ t.size) (h4 : t.size ≤ 32) (hs : d.seen s = some L) :
    Calls Try.prog 16 #[.pointer (some ⟨b, 0, none⟩), .string s, .string t] w fun e w' => ∃ F', e = .returned (.int .i64 0) ∧ WS B w' b (did d ⟨110, s, t, 0, []⟩) (N + 1) F' ∧ Nxt B F F' w w' := by
  have hdo := hide (do_plain B b d N F 110 s t w h hN hfl (.inl rfl) h2 h4)
  obtain ⟨⟨sb, db, wv, fv, vs, Fb, hx, hF⟩, -, -⟩ := h
  have c0 := hx.bk.c0
  have hb := hx.bk.lt
  obtain ⟨v0, -, hlk, hb0, -⟩ := hx.seen.get s (by simp [maxLen]; omega)
  obtain ⟨A, c, rfl, -, -⟩ := hb0
  rw [hs] at hlk
  simp only [Option.isSome_some] at hlk
  have hname := hide (name_ok s w h1 h2)
  have hname2 := hide (name_ok t w h3 h4)
  clear hx hF
  go_enter Try.func16, Try.ntmps16
  go_wp2_with (first
    | (go_at_call 22; (with_reducible refine hname.out.mono ?_); rintro e w1 ⟨rfl, rfl⟩)
    | (go_at_call 22; (with_reducible refine hname2.out.mono ?_); rintro e w1 ⟨rfl, rfl⟩)
    | (go_at_call 23; (with_reducible refine hdo.out.mono ?_); rintro e w2 ⟨F', rfl, k1⟩; replace k1 := hide k1))
  go_ret
  exact ⟨F', rfl, k1.out⟩
theorem remove_none (B b : Nat) (d : Wd) (N : Nat) (F : Nat → Prop) (s : ByteArray) (w : World) (h : WS B w b d N F) (hN : N < 100000) (hfl : d.fl d.ops = false) (h1 : 1 ≤ s.size) (h2 : s.size ≤ 32) (hs : d.seen s = none) :
    Calls Try.prog 17 #[.pointer (some ⟨b, 0, none⟩), .string s] w fun e w' => e = .returned (.int .i64 8) ∧ WS B w' b (tick d) (N + 1) F ∧ Nxt B F F w w' := by
  have hcall := hide (call_ws B b d N F w h hN hfl)
  have hBs := h.2.2
  have hB := h.2.1
  obtain ⟨⟨sb, db, wv, fv, vs, Fb, hx, hF⟩, -, -⟩ := h
  have c0 := hx.bk.c0
  have c6 := hx.bk.c6
  have hb := hx.bk.lt
  obtain ⟨v0, -, hlk, hb0, -⟩ := hx.seen.get s (by simp [maxLen]; omega)
  obtain ⟨A, c, rfl, -, -⟩ := hb0
  rw [hs] at hlk
  simp only [Option.isSome_none] at hlk
  have hname := hide (name_ok s w h1 h2)
  clear hx hF
  go_enter Try.func17, Try.ntmps17
  go_wp2_with (first
    | (go_at_call 22; (with_reducible refine hname.out.mono ?_); rintro e w1 ⟨rfl, rfl⟩)
    | (go_at_call 24; (with_reducible refine hcall.out.mono ?_); rintro e w2 ⟨rfl, k1, k2, k3⟩; replace k1 := hide k1; replace k2 := hide k2; replace k3 := hide k3))
  go_ret
  have hm := k2.out.mono (G := F) (fun _ _ e => e ▸ k3.out)
  exact ⟨rfl, k1.out, hm, hm.below hBs fun k hk => (hB k hk).1, fun _ _ h => h⟩
theorem remove_some (B b : Nat) (d : Wd) (N : Nat) (F : Nat → Prop) (s : ByteArray) (L : List Int) (w : World) (h : WS B w b d N F) (hN : N < 100000) (hfl : d.fl d.ops = false) (h1 : 1 ≤ s.size) (h2 : s.size ≤ 32) (hs : d.seen s = some L) :
    Calls Try.prog 17 #[.pointer (some ⟨b, 0, none⟩), .string s] w fun e w' => ∃ F', e = .returned (.int .i64 0) ∧ WS B w' b (did d ⟨114, s, ⟨#[]⟩, 0, []⟩) (N + 1) F' ∧ Nxt B F F' w w' := by
  have hdo := hide (do_plain B b d N F 114 s ⟨#[]⟩ w h hN hfl (.inr rfl) h2 (Nat.zero_le _))
  obtain ⟨⟨sb, db, wv, fv, vs, Fb, hx, hF⟩, -, -⟩ := h
  have c0 := hx.bk.c0
  have hb := hx.bk.lt
  obtain ⟨v0, -, hlk, hb0, -⟩ := hx.seen.get s (by simp [maxLen]; omega)
  obtain ⟨A, c, rfl, -, -⟩ := hb0
  rw [hs] at hlk
  simp only [Option.isSome_some] at hlk
  have hname := hide (name_ok s w h1 h2)
  clear hx hF
  go_enter Try.func17, Try.ntmps17
  go_wp2_with (first
    | (go_at_call 22; (with_reducible refine hname.out.mono ?_); rintro e w1 ⟨rfl, rfl⟩)
    | (go_at_call 23; (with_reducible refine hdo.out.mono ?_); rintro e w2 ⟨F', rfl, k1⟩; replace k1 := hide k1))
  go_ret
  exact ⟨F', rfl, k1.out⟩
end Go.Proofs.Ytmlnieblgkhjnaa
