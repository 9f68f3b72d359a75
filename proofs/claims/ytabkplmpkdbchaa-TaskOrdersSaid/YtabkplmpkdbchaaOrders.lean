/-
  The walk of TaskOrders. No condition.
-/
import Derived.Test.YtabkplmpkdbchaaPlord
import Derived.Test.YtabkplmpkdbchaaOpen
namespace Go.Proofs.Ytabkplmpkdbchaa.taskOrders
open Go.ChangeShapes Go.WideShapes Go.ChangeAt Go.RowKit Go.Deep
set_option linter.unusedVariables false

theorem at_gi {w : World} {A : Option Addr} {n : Nat} {l : List T} (r : Rd w 4 Ytabkplmpkdbchaa.enc A n l) (k : Nat) (hk : k < n) : ∃ ad, A = some ad ∧ ∀ j u, (Ytabkplmpkdbchaa.enc (gi l k))[j]? = some u → w.cell? ((ad.add (k * 4)).add j) = some u := r.elem k hk

/-- The state at each round's head. -/
def St (B b : Nat) (w wr : World) (m : Nat) : Prop := ∃ F l, Ord m l ∧ SL B wr b l (-1) F ∧ Below B w wr

set_option maxRecDepth 100000 in
set_option maxHeartbeats 4000000 in
theorem walk0 (A1 : Option Addr) (alen acap : Nat) (attrs : List Int) (A2 : Option Addr) (plen pcap : Nat) (picks : List Int) (w : World) (hr : Rd w 1 (ic .u8) A1 alen attrs) (hb : ∀ a ∈ attrs, 0 ≤ a ∧ a ≤ 255)
    (hr2 : Rd w 1 (ic .u8) A2 plen picks) (hb2 : ∀ a ∈ picks, 0 ≤ a ∧ a ≤ 255) :
    Calls Try.prog 5 #[.slice A1 alen acap, .slice A2 plen pcap] w fun e w' => e = .returned (.bool true) ∧ Below w.heap.size w w' := by
  obtain ⟨B, hB⟩ : ∃ B, B = w.heap.size := ⟨_, rfl⟩
  have haw := awake_any w
  replace hr := hide hr
  replace hb := hide hb
  replace hr2 := hide hr2
  replace hb2 := hide hb2
  replace hB := hide hB
  replace haw := hide haw
  go_enter Try.func5, Try.ntmps5
  go_wp2_with (first
    | (go_at_call 9; (with_reducible refine haw.out.mono ?_); rintro e w1 ⟨rfl, m1⟩; replace m1 := hide m1)
    | (go_at_call 15; (with_reducible refine (new_law w1 B (by have h1 := m1.out.size; have h2 := hB.out; omega)).mono ?_); rintro e w2 ⟨b, F, rfl, hs, m2⟩; replace hs := hide hs; replace m2 := hide m2))
  have hP : St B b w w2 0 := ⟨F, [], Ord.nil, hs.out, (m1.out.trans m2.out (by simp)).below (by have h2 := hB.out; omega) (by simp)⟩
  clear hs m1 m2 haw
  replace hP := hide hP
  go_loopw [6, 7, 8, 9, 10, 11, 12, 13, 14, 15, 16] (fun nx i _ _ _ _ _ _ _ _ _ wr => ∃ k m : Nat, k ≤ plen ∧ k ≤ 200 ∧ m ≤ k ∧ m ≤ alen ∧ i = .int .i64 k ∧ nx = .int .i64 m ∧ Hid (St B b w wr m)) (fun _ i _ _ _ _ _ _ _ _ _ _ => plen - (intOf i).toNat)
  case atStart => exact ⟨0, 0, by omega, by omega, by omega, by omega, rfl, rfl, hP⟩
  case round =>
    obtain ⟨k, m, hk, hk200, hmk, hma, rfl, rfl, hR⟩ := hrel
    clear hP
    by_cases hlt : k < plen ∧ k < 200
    · obtain ⟨hlt, hlt200⟩ := hlt
      obtain ⟨F, l, hord, hs, hbl⟩ := hR.out
      clear hR
      obtain ⟨pad, hA2, hck⟩ := hr2.out.int k hlt
      subst hA2
      have hckr : wr.cell? (pad.add k) = some (.int .u8 (gi picks k)) := (hbl.cell (by rw [hB.out]; exact World.block_lt_of_cell? w _ hck)).trans hck
      have hbk := hb2.out (gi picks k) (by rw [gi_eq picks k (by rw [hr2.out.1]; exact hlt)]; exact List.getElem_mem _)
      have hpb : (pad.add k).block < B := by rw [hB.out]; exact World.block_lt_of_cell? w _ hck
      replace hpb := hide hpb
      clear hck
      generalize hpk : gi picks k = p at *
      replace hpk := hide hpk
      obtain ⟨p0, p1⟩ := hbk
      have e4 : p.tmod 3 = p % 3 := Int.tmod_eq_emod_of_nonneg p0
      have hl1000 : l.length ≤ 1000 := Nat.le_trans hord.1 (by decide)
      by_cases hen : p % 3 = 0 ∧ m < alen
      · obtain ⟨hp0, hm⟩ := hen
        obtain ⟨ad, hA1, hca⟩ := hr.out.int m hm
        subst hA1
        have hcar : wr.cell? (ad.add m) = some (.int .u8 (gi attrs m)) := (hbl.cell (by rw [hB.out]; exact World.block_lt_of_cell? w _ hca)).trans hca
        have hba := hb.out (gi attrs m) (by rw [gi_eq attrs m (by rw [hr.out.1]; exact hm)]; exact List.getElem_mem _)
        clear hca
        obtain ⟨a0, a1⟩ := hba
        have e2 : (m : Int).tmod 8 = (m : Int) % 8 := Int.tmod_eq_emod_of_nonneg (by omega)
        have e3 : IntKind.u32.wrap (m : Int) = (m : Int) := IntWalk.u32_in _ (by omega)
        have e5 : (gi attrs m).tmod 3 = gi attrs m % 3 := Int.tmod_eq_emod_of_nonneg a0
        have t1 : ((p % 3 : Int) == 0) = true := by simpa using hp0
        obtain ⟨st, l', he, hst, hord'⟩ := hord.enter (gi attrs m)
        have hcall := (enter_law B b ⟨(m : Int) % 8, m, gi attrs m % 3, false⟩ l (-1) F wr hord.1 hs)
        rw [he] at hcall
        have hcall2 : Calls Try.prog 12 #[.pointer (some ⟨b, 0, none⟩), .agg #[.int .i64 ((m : Int) % 8), .int .u32 (m : Int), .int .u8 (gi attrs m % 3), .bool false]] wr fun e w' => e = .returned (.tuple #[.int .u8 st, .int .i64 0]) ∧ Hid (St B b w w' (m + 1)) :=
          hcall.mono fun e w' ⟨F', he, h1, h2⟩ => ⟨he, hide ⟨F', l', hord', h1, hbl.trans h2.2.1⟩⟩
        clear hcall hs hbl he hord' hord
        replace hp0 := hide hp0
        rcases hst with rfl | rfl
        all_goals
          replace hcall2 := hide hcall2
          go_wp2_with (go_at_call 12; (with_reducible refine hcall2.out.mono ?_); rintro e w2 ⟨rfl, h2⟩)
          go_roundw
          case rel => exact ⟨k + 1, m + 1, by omega, by omega, by omega, by omega, by go_num, by go_num, h2⟩
          case measure => simp [intOf]; omega
      · obtain ⟨n, hn⟩ : ∃ n, n = l.length := ⟨_, rfl⟩
        have hn16 : n ≤ 16 := by rw [hn]; exact hord.1
        by_cases h1 : p % 3 = 1
        · have t0 : ((p % 3 : Int) == 0) = false := by simp [h1]
          have t1 : ((p % 3 : Int) == 1) = true := by simpa using h1
          obtain ⟨rr, hrr⟩ : ∃ rr, rr = readyL l (-1) := ⟨_, rfl⟩
          obtain ⟨nr, hnr⟩ : ∃ nr, nr = rr.length := ⟨_, rfl⟩
          have hnr16 : nr ≤ 16 := by rw [hnr, hrr]; exact Nat.le_trans (readyTo_length l (-1) l.length) hord.1
          clear hen
          replace h1 := hide h1
          replace hs := hide hs; replace hbl := hide hbl; replace hord := hide hord; replace hn := hide hn; replace hl1000 := hide hl1000; replace hrr := hide hrr; replace hnr := hide hnr
          obtain ⟨w0, hw0⟩ : ∃ w0, w0 = wr := ⟨_, rfl⟩
          subst hw0
          by_cases hz : nr = 0
          · have z1 : ((nr : Int) == 0) = true := by simp [hz]
            replace hz := hide hz
            go_wp2_with (first
              | (go_at_call 11; (with_reducible refine (tasks_law B b l (-1) F w0 hl1000.out hs.out).mono ?_); rintro e w3 ⟨v1, rfl, r1, hs3, n3⟩; obtain ⟨A3, c3, rfl⟩ := r1.slice; rw [← hn.out] at r1 ⊢
                 have hck3 := (n3.2.1.cell hpb.out).trans hckr
                 replace r1 := hide r1; replace hs3 := hide hs3; replace n3 := hide n3)
              | (go_at_call 16; have hh := ready_law B b l (-1) F w3 hl1000.out hs3.out; rw [← hrr.out] at hh; (with_reducible refine hh.mono ?_); clear hh; rintro e w4 ⟨v2, rfl, r2, hs4, n4⟩; obtain ⟨A4, c4, rfl⟩ := r2.slice; rw [← hnr.out] at r2 ⊢
                 replace r2 := hide r2; replace hs4 := hide hs4; replace n4 := hide n4))
            go_roundw
            case rel => exact ⟨k + 1, m, by omega, by omega, by omega, by omega, by go_num, rfl, hide ⟨F, l, hord.out, hs4.out, (hbl.out.trans n3.out.2.1).trans n4.out.2.1⟩⟩
            case measure => simp [intOf]; omega
          · have z1 : ((nr : Int) == 0) = false := by simpa using hz
            obtain ⟨q, hq⟩ : ∃ q : Nat, p / 3 % (nr : Int) = (q : Int) := ⟨(p / 3 % (nr : Int)).toNat, by have := Int.emod_nonneg (p / 3) (b := (nr : Int)) (by omega); omega⟩
            have hqn : q < nr := by have := Int.emod_lt_of_pos (p / 3) (b := (nr : Int)) (by omega); omega
            have hq2 : (p / 3).tmod (nr : Int) = (q : Int) := by rw [Int.tmod_eq_emod_of_nonneg (by omega)]; exact hq
            obtain ⟨i, hi, hmay, hgi⟩ := ready_mem (l := l) (aca := -1) (j := q) (by rw [← hrr.out, ← hnr.out]; exact hqn)
            rw [← hrr.out] at hgi
            obtain ⟨l', hsta, hord'⟩ := hord.out.start hi hmay
            have hpair : ∀ j, j < n → _ := fun j hj => hord.out.may hi (j := j) (by rw [← hn.out]; exact hj) hmay
            rw [← hgi] at hsta hpair
            clear hgi hmay hi
            obtain ⟨t, ht⟩ : ∃ t, t = gi rr q := ⟨_, rfl⟩
            rw [← ht] at hsta hpair
            replace hsta := hide hsta; replace hpair := hide hpair; replace hord' := hide hord'; replace ht := hide ht
            go_wp2_with (first
              | (go_at_call 11; (with_reducible refine (tasks_law B b l (-1) F w0 hl1000.out hs.out).mono ?_); rintro e w3 ⟨v1, rfl, r1, hs3, n3⟩; obtain ⟨A3, c3, rfl⟩ := r1.slice; rw [← hn.out] at r1 ⊢
                 have hck3 := (n3.2.1.cell hpb.out).trans hckr
                 replace r1 := hide r1; replace hs3 := hide hs3; replace n3 := hide n3)
              | (go_at_call 16; have hh := ready_law B b l (-1) F w3 hl1000.out hs3.out; rw [← hrr.out] at hh; (with_reducible refine hh.mono ?_); clear hh; rintro e w4 ⟨v2, rfl, r2, hs4, n4⟩; obtain ⟨A4, c4, rfl⟩ := r2.slice; rw [← hnr.out] at r2 ⊢
                 have hck4 := (n4.2.1.cell hpb.out).trans hck3
                 obtain ⟨ad4, hA4, hc4⟩ := at_gi (r2.1.rd enc_len rfl) q hqn
                 subst hA4
                 rw [← ht.out] at hc4
                 replace hc4 := hide hc4
                 replace r2 := hide r2; replace hs4 := hide hs4; replace n4 := hide n4)
              | ((with_reducible refine load_task (.tmp 92) t (ad4.add (q * 4)) ?_ ?_ ?_ hc4.out ?_); exact rfl; exact rfl; exact rfl))
            have hmw : Mod (fun _ => False) w4 (w4.alloc (.cells #[.int .i64 t.nx, .int .u32 t.tag, .int .u8 t.at_, .bool t.st] 26)) := (Mod.refl _ w4).alloc _
            have hbx : (w4.alloc (.cells #[.int .i64 t.nx, .int .u32 t.tag, .int .u8 t.at_, .bool t.st] 26)).heap[w4.heap.size]? = some (.cells #[.int .i64 t.nx, .int .u32 t.tag, .int .u8 t.at_, .bool t.st] 26) := heap_alloc_new _ _
            obtain ⟨W1, hW1⟩ : ∃ W1, W1 = w4.alloc (.cells #[.int .i64 t.nx, .int .u32 t.tag, .int .u8 t.at_, .bool t.st] 26) := ⟨_, rfl⟩
            rw [← hW1] at hmw hbx
            have ra := hide (((r1.out.nxt n4.out).1.mod hmw (by simp)).rd enc_len rfl)
            replace hW1 := hide hW1; replace hmw := hide hmw; replace hbx := hide hbx
            clear hckr hck3 hck4
            go_loopw [13, 14, 15] (fun u _ _ wr => ∃ j : Nat, j ≤ n ∧ u = .int .i64 j ∧ Hid (Mod (fun _ => False) W1 wr)) (fun u _ _ _ => n - (intOf u).toNat)
            case atStart => exact ⟨0, by omega, rfl, hide (by rw [hW1.out]; exact Mod.refl _ _)⟩
            case round =>
              obtain ⟨j, hj, rfl, hR⟩ := hrel
              have hbr := hR.out.heap hbx.out (by simp)
              have b0 : wr.cell? ⟨w4.heap.size, 0, none⟩ = some (.int .i64 t.nx) := by rw [cell_of_row wr _ _ _ 26 (0, 0) hbr]; rfl
              have b1 : wr.cell? ⟨w4.heap.size, 1, none⟩ = some (.int .u32 t.tag) := by rw [cell_of_row wr _ _ _ 26 (0, 0) hbr]; rfl
              have b2 : wr.cell? ⟨w4.heap.size, 2, none⟩ = some (.int .u8 t.at_) := by rw [cell_of_row wr _ _ _ 26 (0, 0) hbr]; rfl
              have hltw : w4.heap.size < wr.heap.size := (Array.getElem?_eq_some_iff.1 hbr).1
              clear hbr
              by_cases hjn : j < n
              · obtain ⟨ad, hA3, hk4⟩ := at_gi (ra.out.mod hR.out (by simp)) j hjn
                subst hA3
                have hp := hpair.out j hjn
                obtain ⟨u, hu⟩ : ∃ u, u = gi l j := ⟨_, rfl⟩
                rw [← hu] at hk4 hp
                replace hu := hide hu; replace hk4 := hide hk4
                have hfacts : (((t.at_ == 1) = false ∧ (t.at_ != 2) = false)) ∨ ((t.at_ != 2) = true ∧ (u.at_ == 2) = false ∧ decide (u.tag < t.tag) = false ∧ ((t.at_ == 1) = true ∨ (t.at_ == 1) = false)) ∨ ((t.at_ != 2) = true ∧ (u.at_ == 2) = false ∧ decide (u.tag < t.tag) = true ∧ (t.at_ == 1) = false ∧ (u.at_ == 1) = false) := by
                  rcases hp with h | ⟨h1, h2, h3 | ⟨h3, h4, h5⟩⟩
                  · exact .inl ⟨by rw [h]; decide, by rw [h]; decide⟩
                  · exact .inr (.inl ⟨by simpa using h1, by simpa using h2, by simpa using h3, by cases (t.at_ == 1) <;> simp⟩)
                  · exact .inr (.inr ⟨by simpa using h1, by simpa using h2, by simpa using h3, by simpa using h4, by simpa using h5⟩)
                clear hp
                rcases hfacts with ⟨g1, g2⟩ | ⟨g1, g2, g3, g4 | g4⟩ | ⟨g1, g2, g3, g4, g5⟩
                all_goals
                  go_wp2_with ((with_reducible refine load_task (.tmp 102) u (ad.add (j * 4)) ?_ ?_ ?_ hk4.out ?_); exact rfl; exact rfl; exact rfl)
                  all_goals
                    go_roundw
                    case rel => exact ⟨j + 1, by omega, by go_num, hide (hR.out.alloc _)⟩
                    case measure => simp [intOf]; omega
              · obtain rfl : j = n := by omega
                have hs5 := hs4.out.quiet ((hmw.out).trans hR.out (by simp))
                have hcall := start_law B b t.nx t.tag l (-1) F wr hl1000.out hs5.1
                rw [hsta.out] at hcall
                have hcall2 : Calls Try.prog 17 #[.pointer (some ⟨b, 0, none⟩), .int .i64 t.nx, .int .u32 t.tag] wr fun e w' => e = .returned (.int .i64 0) ∧ Hid (St B b w w' m) :=
                  hcall.mono fun e w' ⟨F', he, h1, h2⟩ => ⟨he, hide ⟨F', l', hord'.out, h1, (((hbl.out.trans n3.out.2.1).trans n4.out.2.1).trans hs5.2.2.1).trans h2.2.1⟩⟩
                clear hcall hs5
                replace hcall2 := hide hcall2
                go_wp2_with (go_at_call 17; (with_reducible refine hcall2.out.mono ?_); rintro e w6 ⟨rfl, h6⟩)
                go_roundw
                case rel => exact ⟨k + 1, m, by omega, by omega, by omega, by omega, by go_num, rfl, h6⟩
                case measure => simp [intOf]; omega
        · have hcases : ((((p % 3 : Int) == 0) = true ∧ ((p % 3 : Int) == 1) = false) ∧ alen ≤ m) ∨ (((p % 3 : Int) == 0) = false ∧ ((p % 3 : Int) == 1) = false) := by
            have t1 : ((p % 3 : Int) == 1) = false := by simpa using h1
            by_cases hp0 : p % 3 = 0
            · left
              exact ⟨⟨by simpa using hp0, t1⟩, by omega⟩
            · right
              exact ⟨by simpa using hp0, t1⟩
          clear hen h1
          replace hs := hide hs; replace hbl := hide hbl; replace hord := hide hord; replace hn := hide hn; replace hl1000 := hide hl1000
          obtain ⟨w0, hw0⟩ : ∃ w0, w0 = wr := ⟨_, rfl⟩
          subst hw0
          rcases hcases with ⟨⟨t0, t1⟩, hma2⟩ | ⟨t0, t1⟩
          all_goals
            go_wp2_with (go_at_call 11; (with_reducible refine (tasks_law B b l (-1) F w0 hl1000.out hs.out).mono ?_); rintro e w3 ⟨v1, rfl, r1, hs3, n3⟩; obtain ⟨A3, c3, rfl⟩ := r1.slice; rw [← hn.out] at r1 ⊢
                         have hck3 := (n3.2.1.cell hpb.out).trans hckr
                         replace r1 := hide r1; replace hs3 := hide hs3; replace n3 := hide n3)
            have ra := hide (r1.out.1.rd enc_len rfl)
            clear hckr hck3
            go_loopw [16] (fun u wr => ∃ j : Nat, j ≤ n ∧ u = .int .i64 j ∧ Hid (w3 = wr)) (fun u _ => n - (intOf u).toNat)
            case atStart => exact ⟨0, by omega, rfl, hide rfl⟩
            case round =>
              obtain ⟨j, hj, rfl, hR⟩ := hrel
              have hw3 := hR.out
              subst hw3
              clear hR
              by_cases hjn : j < n
              · obtain ⟨ad, hA3, x0, x1, x2, x3⟩ := ra.out.task j hjn
                subst hA3
                replace x1 := fld x1 (by decide)
                replace x3 := fld x3 (by decide)
                clear x2
                cases hst : (gi l j).st
                · rw [hst] at x3
                  replace hst := hide hst
                  go_wp2_with fail
                  go_roundw
                  case rel => exact ⟨j + 1, by omega, by go_num, by first | exact hide rfl | exact hide trivial⟩
                  case measure => simp [intOf]; omega
                · rw [hst] at x3
                  obtain ⟨l', hfin, hord'⟩ := hord.out.end_ (by rw [← hn.out]; exact hjn) hst
                  have hsd : SL B w3.drew b l (-1) F := ⟨hs3.out.1.mod (Mod.drew (Mod.refl (fun _ => False) w3)) (by simp), hs3.out.2.1, hs3.out.2.2⟩
                  have hbd : Below B w w3.drew := below_drewN (hbl.out.trans n3.out.2.1) 1
                  have hcall := end_law B b (gi l j).nx (gi l j).tag l (-1) F w3.drew hl1000.out hsd
                  rw [hfin] at hcall
                  have hcall2 : Calls Try.prog 18 #[.pointer (some ⟨b, 0, none⟩), .int .i64 (gi l j).nx, .int .u32 (gi l j).tag] w3.drew fun e w' => e = .returned (.int .i64 0) ∧ Hid (St B b w w' m) :=
                    hcall.mono fun e w' ⟨F', he, h1, h2⟩ => ⟨he, hide ⟨F', l', hord', h1, hbd.trans h2.2.1⟩⟩
                  clear hcall hsd hbd hfin hord' ra
                  replace hcall2 := hide hcall2
                  replace hst := hide hst
                  generalize gi l j = t at *
                  go_wp2_with fail
                  go_region_with (go_at_call 18; (with_reducible refine hcall2.out.mono ?_); rintro e w6 ⟨rfl, h6⟩)
                  all_goals
                    go_wp2_with fail
                    go_roundw
                    case rel => exact ⟨k + 1, m, by omega, by omega, by omega, by omega, by go_num, rfl, h6⟩
                    case measure => simp [intOf]; omega
              · obtain rfl : j = n := by omega
                go_wp2_with fail
                go_roundw
                case rel => exact ⟨k + 1, m, by omega, by omega, by omega, by omega, by go_num, rfl, hide ⟨F, l, hord.out, hs3.out, hbl.out.trans n3.out.2.1⟩⟩
                case measure => simp [intOf]; omega
    · have hcases : k = plen ∨ (k < plen ∧ k = 200) := by omega
      have hbl : Below B w wr := by obtain ⟨F, l, _, _, h⟩ := hR.out; exact h
      replace hbl := hide hbl
      clear hR hlt
      rcases hcases with rfl | ⟨hk1, rfl⟩
      all_goals
        go_wp2_with fail
        go_ret
        exact ⟨rfl, by rw [← hB.out]; exact hbl.out⟩
end Go.Proofs.Ytabkplmpkdbchaa.taskOrders
